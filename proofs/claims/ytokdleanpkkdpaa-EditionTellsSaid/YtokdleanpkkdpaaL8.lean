/- The walk of EditionCopies; conditions: a title and an order in memory. Printed by a program. -/
import Derived.Test.YtokdleanpkkdpaaL4
import Derived.Test.YtokdleanpkkdpaaL5
import Derived.Test.YtokdleanpkkdpaaL6
import Derived.Test.YtokdleanpkkdpaaUA
import Derived.Test.YtokdleanpkkdpaaUC
set_option linter.unusedSimpArgs false
set_option linter.unusedVariables false
namespace Go.Ed
open Go.Fh Go.RowKit Go.Proofs.Ytokdleanpkkdpaa
def natL (l : List Int) : List Nat := l.map Int.toNat
theorem natL_len (l : List Int) : (natL l).length = l.length := by simp [natL]
theorem ord_nat {n : Nat} {l : List Int} (h : ordersB n l = true) : l = (natL l).map fun (e : Nat) => (e : Int) := by
  unfold natL
  rw [List.map_map]
  have hp : ∀ x ∈ l, 0 ≤ x := by
    intro x hx
    unfold ordersB at h
    simp only [Bool.and_eq_true] at h
    exact (inB_iff.1 (List.all_eq_true.1 h.1.2 x hx)).1
  refine (List.ext_getElem (by simp) fun i h1 h2 => ?_)
  have := hp l[i] (List.getElem_mem h1)
  simp
  omega
/-- what Latest gives -/
def LatP (t : TitD) (l : List Int) (p v n e : Int) : Prop :=
  if checkT t ≠ 0 then n = 0 ∧ e = checkT t else if ordersB (edsR t).length l = false then n = 0 ∧ e = 1 else
  if inB p 0 ((t.colours.length : Int) - 1) = false ∨ inB v 0 9 = false then n = 0 ∧ e = 1 else
  (inTW t (natL l) p v 0 = false ∧ n = 0 ∧ e = 4) ∨ (LatI t (natL l) p v n ∧ e = 0)
theorem latP_uniq {t : TitD} {l : List Int} {p v n e m f : Int} (h : LatP t l p v n e) (k : LatP t l p v m f) : n = m ∧ e = f := by
  unfold LatP at h k
  split at h
  · rename_i h1
    rw [if_pos h1] at k
    exact ⟨h.1.trans k.1.symm, h.2.trans k.2.symm⟩
  · rename_i h1
    rw [if_neg h1] at k
    split at h
    · rename_i h2
      rw [if_pos h2] at k
      exact ⟨h.1.trans k.1.symm, h.2.trans k.2.symm⟩
    · rename_i h2
      rw [if_neg h2] at k
      split at h
      · rename_i h3
        rw [if_pos h3] at k
        exact ⟨h.1.trans k.1.symm, h.2.trans k.2.symm⟩
      · rename_i h3
        rw [if_neg h3] at k
        rcases h with ⟨a1, a2, a3⟩ | ⟨a1, a2⟩ <;> rcases k with ⟨b1, b2, b3⟩ | ⟨b1, b2⟩
        · exact ⟨a2.trans b2.symm, a3.trans b3.symm⟩
        · have := (latI_iff b1 (show (0 : Int) ≤ 86400 by omega)).2 b1.1
          rw [a1] at this; cases this
        · have := (latI_iff a1 (show (0 : Int) ≤ 86400 by omega)).2 a1.1
          rw [b1] at this; cases this
        · exact ⟨latI_uniq a1 b1, a2.trans b2.symm⟩
def partsP (t : TitD) (l : List Int) : List (Int × Int × Int) := if checkT t = 0 ∧ ordersB (edsR t).length l = true then partsL t (edsR t) (natL l) else []
def errP (t : TitD) (l : List Int) : Int := if checkT t ≠ 0 then checkT t else if ordersB (edsR t).length l = true then 0 else 1
def whichP (t : TitD) (l : List Int) (k : Int) : Int × Int × Int := if checkT t ≠ 0 then (0, 0, checkT t) else if ordersB (edsR t).length l = true then whichE t (edsR t) (natL l) k else (0, 0, 1)
theorem sl_none {α : Type} (enc : α → List Go.Value) (size B : Nat) (w : Go.World) : Sl enc size w B none [] := fun h => absurd rfl h
end Go.Ed
namespace Go.Proofs.Ytokdleanpkkdpaa
open Go.RowKit Go.Fh Go.Ed
theorem boxE {w : World} {g : Nat} {e : TypeId} (t : TitD) (x : TA) (h : Blk w g e (titV t x)) (W : World) (hb : Below w.heap.size w W) : W.cell? ⟨g, 0, none⟩ = some (.slice x.a t.colours.length x.ca) ∧ W.cell? ⟨g, 1, none⟩ = some (.slice x.b t.pairs.length x.cb) ∧ W.cell? ⟨g, 2, none⟩ = some (.slice x.z t.zones.length x.cz) ∧ W.cell? ⟨g, 3, none⟩ = some (.slice x.r t.ready.length x.cr) ∧ W.cell? ⟨g, 4, none⟩ = some (.int .i64 t.start) ∧ W.cell? ⟨g, 5, none⟩ = some (.int .i64 t.rate) ∧ W.cell? ⟨g, 6, none⟩ = some (.int .i64 t.stop) ∧ W.cell? ⟨g, 7, none⟩ = some (.int .i64 t.hang) := by
  have k := h.below hb h.lt
  have r0 := k.cell 0
  have r1 := k.cell 1
  have r2 := k.cell 2
  have r3 := k.cell 3
  have r4 := k.cell 4
  have r5 := k.cell 5
  have r6 := k.cell 6
  have r7 := k.cell 7
  simp [titV] at r0 r1 r2 r3 r4 r5 r6 r7
  exact ⟨r0, r1, r2, r3, r4, r5, r6, r7⟩
theorem lat27_c (t : TitD) (x : TA) (zs : List ZonM) (w : World) (hs : Sizes t) (hT : TitAt w w.heap.size t x zs) (A : Option Addr) (c n : Nat) (l : List Int) (hn : l.length = n) (hl : l.length ≤ 12) (hA : Sl encInt 1 w w.heap.size A l) (p v : Int) :
    Calls Try.prog 27 #[.agg #[.slice x.a t.colours.length x.ca, .slice x.b t.pairs.length x.cb, .slice x.z t.zones.length x.cz, .slice x.r t.ready.length x.cr, .int .i64 t.start, .int .i64 t.rate, .int .i64 t.stop, .int .i64 t.hang], .slice A n c, .int .i64 p, .int .i64 v] w fun e w' => ∃ m ec : Int, e = .returned (.tuple #[.int .i64 m, .int .i64 ec]) ∧ Hid (LatP t l p v m ec) ∧ Hid (Below w.heap.size w w') := by
  subst hn
  by_cases hc : checkT t = 0
  · cases ho : ordersB (edsR t).length l
    · refine (Latest_arg t x zs w hs hT A c l p v (by omega) hA hc ho).mono ?_
      rintro e w' ⟨rfl, hb⟩
      exact ⟨_, _, rfl, Lib.hid (by unfold LatP; rw [if_neg (by simpa using hc), if_pos ho]; exact ⟨rfl, rfl⟩), Lib.hid hb⟩
    · have hln := ord_nat ho
      have ho2 := ho
      have hA2 := hA
      rw [hln] at ho2 hA2
      rw [← natL_len l]
      by_cases hpv : inB p 0 ((t.colours.length : Int) - 1) = false ∨ inB v 0 9 = false
      · refine (Latest_out t x zs w hs hT A c (natL l) p v (by rw [natL_len]; omega) hA2 hc ho2 hpv).mono ?_
        rintro e w' ⟨rfl, hb⟩
        exact ⟨_, _, rfl, Lib.hid (by unfold LatP; rw [if_neg (by simpa using hc), if_neg (by simp [ho]), if_pos hpv]; exact ⟨rfl, rfl⟩), Lib.hid hb⟩
      · have hp : inB p 0 ((t.colours.length : Int) - 1) = true := by cases h : inB p 0 ((t.colours.length : Int) - 1); (exact absurd (.inl h) hpv); rfl
        have hv : inB v 0 9 = true := by cases h : inB v 0 9; (exact absurd (.inr h) hpv); rfl
        refine (Latest_ok t x zs w hs hT A c (natL l) p v (by rw [natL_len]; omega) hA2 hc ho2 (inB_iff.1 hp) (inB_iff.1 hv)).mono ?_
        rintro e w' ⟨⟨h1, rfl⟩ | ⟨m, h1, rfl⟩, hb⟩
        · exact ⟨_, _, rfl, Lib.hid (by unfold LatP; rw [if_neg (by simpa using hc), if_neg (by simp [ho]), if_neg hpv]; exact .inl ⟨h1, rfl, rfl⟩), Lib.hid hb⟩
        · exact ⟨_, _, rfl, Lib.hid (by unfold LatP; rw [if_neg (by simpa using hc), if_neg (by simp [ho]), if_neg hpv]; exact .inr ⟨h1, rfl⟩), Lib.hid hb⟩
  · refine (Latest_bad t x zs w hs hT A c l p v hc).mono ?_
    rintro e w' ⟨rfl, hb⟩
    exact ⟨_, _, rfl, Lib.hid (by unfold LatP; rw [if_pos hc]; exact ⟨rfl, rfl⟩), Lib.hid hb⟩
theorem lat55_c (t : TitD) (x : TA) (zs : List ZonM) (w : World) (hs : Sizes t) (hT : TitAt w w.heap.size t x zs) (A : Option Addr) (c n : Nat) (l : List Int) (hn : l.length = n) (hl : l.length ≤ 12) (hA : Sl encInt 1 w w.heap.size A l) (p v : Int) :
    Calls Try.prog 55 #[.agg #[.slice x.a t.colours.length x.ca, .slice x.b t.pairs.length x.cb, .slice x.z t.zones.length x.cz, .slice x.r t.ready.length x.cr, .int .i64 t.start, .int .i64 t.rate, .int .i64 t.stop, .int .i64 t.hang], .slice A n c, .int .i64 p, .int .i64 v] w fun e w' => ∃ m ec : Int, e = .returned (.tuple #[.int .i64 m, .int .i64 ec]) ∧ Hid (LatP t l p v m ec) ∧ Hid (Below w.heap.size w w') := by
  subst hn
  by_cases hc : checkT t = 0
  · cases ho : ordersB (edsR t).length l
    · refine (rLatest_arg t x zs w hs hT A c l p v (by omega) hA hc ho).mono ?_
      rintro e w' ⟨rfl, hb⟩
      exact ⟨_, _, rfl, Lib.hid (by unfold LatP; rw [if_neg (by simpa using hc), if_pos ho]; exact ⟨rfl, rfl⟩), Lib.hid hb⟩
    · have hln := ord_nat ho
      have ho2 := ho
      have hA2 := hA
      rw [hln] at ho2 hA2
      rw [← natL_len l]
      by_cases hpv : inB p 0 ((t.colours.length : Int) - 1) = false ∨ inB v 0 9 = false
      · refine (rLatest_out t x zs w hs hT A c (natL l) p v hA2 hc ho2 hpv).mono ?_
        rintro e w' ⟨rfl, hb⟩
        exact ⟨_, _, rfl, Lib.hid (by unfold LatP; rw [if_neg (by simpa using hc), if_neg (by simp [ho]), if_pos hpv]; exact ⟨rfl, rfl⟩), Lib.hid hb⟩
      · have hp : inB p 0 ((t.colours.length : Int) - 1) = true := by cases h : inB p 0 ((t.colours.length : Int) - 1); (exact absurd (.inl h) hpv); rfl
        have hv : inB v 0 9 = true := by cases h : inB v 0 9; (exact absurd (.inr h) hpv); rfl
        refine (rLatest_ok t x zs w hs hT A c (natL l) p v hA2 hc ho2 (inB_iff.1 hp) (inB_iff.1 hv)).mono ?_
        rintro e w' ⟨⟨h1, rfl⟩ | ⟨m, h1, rfl⟩, hb⟩
        · exact ⟨_, _, rfl, Lib.hid (by unfold LatP; rw [if_neg (by simpa using hc), if_neg (by simp [ho]), if_neg hpv]; exact .inl ⟨h1, rfl, rfl⟩), Lib.hid hb⟩
        · exact ⟨_, _, rfl, Lib.hid (by unfold LatP; rw [if_neg (by simpa using hc), if_neg (by simp [ho]), if_neg hpv]; exact .inr ⟨h1, rfl⟩), Lib.hid hb⟩
  · refine (rLatest_bad t x zs w hs hT A c l p v hc).mono ?_
    rintro e w' ⟨rfl, hb⟩
    exact ⟨_, _, rfl, Lib.hid (by unfold LatP; rw [if_pos hc]; exact ⟨rfl, rfl⟩), Lib.hid hb⟩
theorem parts17_c (t : TitD) (x : TA) (zs : List ZonM) (w : World) (hs : Sizes t) (hT : TitAt w w.heap.size t x zs) (A : Option Addr) (c n : Nat) (l : List Int) (hn : l.length = n) (hl : l.length ≤ 12) (hA : Sl encInt 1 w w.heap.size A l) (m : Nat) (hm : m = (partsP t l).length) :
    Calls Try.prog 17 #[.agg #[.slice x.a t.colours.length x.ca, .slice x.b t.pairs.length x.cb, .slice x.z t.zones.length x.cz, .slice x.r t.ready.length x.cr, .int .i64 t.start, .int .i64 t.rate, .int .i64 t.stop, .int .i64 t.hang], .slice A n c] w fun e w' => ∃ (A' : Option Addr) (c' : Nat), e = .returned (.tuple #[.slice A' m c', .int .i64 (errP t l)]) ∧ Hid (Sl enc3 3 w' w'.heap.size A' (partsP t l)) ∧ Hid (Below w.heap.size w w') := by
  subst hn
  by_cases hc : checkT t = 0
  · cases ho : ordersB (edsR t).length l
    · refine (Parts_arg t x zs w hs hT A c l (by omega) hA hc ho).mono ?_
      rintro e w' ⟨rfl, hb⟩
      have hp : partsP t l = [] := by unfold partsP; rw [if_neg (by simp [ho])]
      have he : errP t l = 1 := by unfold errP; rw [if_neg (by simpa using hc), if_neg (by simp [ho])]
      rw [hp] at hm ⊢
      rw [he, hm]
      exact ⟨none, 0, rfl, Lib.hid (sl_none _ _ _ _), Lib.hid hb⟩
    · have hln := ord_nat ho
      have ho2 := ho
      have hA2 := hA
      rw [hln] at ho2 hA2
      rw [← natL_len l]
      have hp : partsP t l = partsL t (edsR t) (natL l) := by unfold partsP; rw [if_pos ⟨hc, ho⟩]
      have he : errP t l = 0 := by unfold errP; rw [if_neg (by simpa using hc), if_pos ho]
      refine (Parts_ok t x zs w hs hT A c (natL l) (by rw [natL_len]; omega) hA2 hc ho2).mono ?_
      rintro e w' ⟨A', c', rfl, hw, hb⟩
      rw [hp] at hm ⊢
      rw [he, hm]
      exact ⟨A', c', rfl, Lib.hid (Sl.of_own (enc := enc3) (fun _ => rfl) hw), Lib.hid hb⟩
  · refine (Parts_bad t x zs w hs hT A c l hc).mono ?_
    rintro e w' ⟨rfl, hb⟩
    have hp : partsP t l = [] := by unfold partsP; rw [if_neg (by simp [hc])]
    have he : errP t l = checkT t := by unfold errP; rw [if_pos hc]
    rw [hp] at hm ⊢
    rw [he, hm]
    exact ⟨none, 0, rfl, Lib.hid (sl_none _ _ _ _), Lib.hid hb⟩
theorem parts56_c (t : TitD) (x : TA) (zs : List ZonM) (w : World) (hs : Sizes t) (hT : TitAt w w.heap.size t x zs) (A : Option Addr) (c n : Nat) (l : List Int) (hn : l.length = n) (hl : l.length ≤ 12) (hA : Sl encInt 1 w w.heap.size A l) (m : Nat) (hm : m = (partsP t l).length) :
    Calls Try.prog 56 #[.agg #[.slice x.a t.colours.length x.ca, .slice x.b t.pairs.length x.cb, .slice x.z t.zones.length x.cz, .slice x.r t.ready.length x.cr, .int .i64 t.start, .int .i64 t.rate, .int .i64 t.stop, .int .i64 t.hang], .slice A n c] w fun e w' => ∃ (A' : Option Addr) (c' : Nat), e = .returned (.tuple #[.slice A' m c', .int .i64 (errP t l)]) ∧ Hid (Sl enc3 3 w' w'.heap.size A' (partsP t l)) ∧ Hid (Below w.heap.size w w') := by
  subst hn
  by_cases hc : checkT t = 0
  · cases ho : ordersB (edsR t).length l
    · refine (rParts_arg t x zs w hs hT A c l (by omega) hA hc ho).mono ?_
      rintro e w' ⟨rfl, hb⟩
      have hp : partsP t l = [] := by unfold partsP; rw [if_neg (by simp [ho])]
      have he : errP t l = 1 := by unfold errP; rw [if_neg (by simpa using hc), if_neg (by simp [ho])]
      rw [hp] at hm ⊢
      rw [he, hm]
      exact ⟨none, 0, rfl, Lib.hid (sl_none _ _ _ _), Lib.hid hb⟩
    · have hln := ord_nat ho
      have ho2 := ho
      have hA2 := hA
      rw [hln] at ho2 hA2
      rw [← natL_len l]
      have hp : partsP t l = partsL t (edsR t) (natL l) := by unfold partsP; rw [if_pos ⟨hc, ho⟩]
      have he : errP t l = 0 := by unfold errP; rw [if_neg (by simpa using hc), if_pos ho]
      refine (rParts_ok t x zs w hs hT A c (natL l) hA2 hc ho2).mono ?_
      rintro e w' ⟨A', c', rfl, hw, hb⟩
      rw [hp] at hm ⊢
      rw [he, hm]
      exact ⟨A', c', rfl, Lib.hid (Sl.of_own (enc := enc3) (fun _ => rfl) hw), Lib.hid hb⟩
  · refine (rParts_bad t x zs w hs hT A c l hc).mono ?_
    rintro e w' ⟨rfl, hb⟩
    have hp : partsP t l = [] := by unfold partsP; rw [if_neg (by simp [hc])]
    have he : errP t l = checkT t := by unfold errP; rw [if_pos hc]
    rw [hp] at hm ⊢
    rw [he, hm]
    exact ⟨none, 0, rfl, Lib.hid (sl_none _ _ _ _), Lib.hid hb⟩
theorem which18_c (t : TitD) (x : TA) (zs : List ZonM) (w : World) (hs : Sizes t) (hT : TitAt w w.heap.size t x zs) (A : Option Addr) (c n : Nat) (l : List Int) (hn : l.length = n) (hl : l.length ≤ 12) (hA : Sl encInt 1 w w.heap.size A l) (k : Int) (r : Int × Int × Int) (hr : r = whichP t l k) :
    Calls Try.prog 18 #[.agg #[.slice x.a t.colours.length x.ca, .slice x.b t.pairs.length x.cb, .slice x.z t.zones.length x.cz, .slice x.r t.ready.length x.cr, .int .i64 t.start, .int .i64 t.rate, .int .i64 t.stop, .int .i64 t.hang], .slice A n c, .int .i64 k] w fun e w' => e = .returned (.tuple #[.int .i64 r.1, .int .i64 r.2.1, .int .i64 r.2.2]) ∧ Hid (Below w.heap.size w w') := by
  subst hn hr
  by_cases hc : checkT t = 0
  · cases ho : ordersB (edsR t).length l
    · refine (Which_arg t x zs w hs hT k A c l (by omega) hA hc ho).mono ?_
      rintro e w' ⟨rfl, hb⟩
      have he : whichP t l k = (0, 0, 1) := by unfold whichP; rw [if_neg (by simpa using hc), if_neg (by simp [ho])]
      rw [he]
      exact ⟨rfl, Lib.hid hb⟩
    · have hln := ord_nat ho
      have ho2 := ho
      have hA2 := hA
      rw [hln] at ho2 hA2
      have he : whichP t l k = whichE t (edsR t) (natL l) k := by unfold whichP; rw [if_neg (by simpa using hc), if_pos ho]
      rw [he, ← natL_len l]
      refine (Which_ok t x zs w hs hT A c (natL l) k (by rw [natL_len]; omega) hA2 hc ho2).mono ?_
      rintro e w' ⟨rfl, hb⟩
      exact ⟨rfl, Lib.hid hb⟩
  · refine (Which_bad t x zs w hs hT k A c l hc).mono ?_
    rintro e w' ⟨rfl, hb⟩
    have he : whichP t l k = (0, 0, checkT t) := by unfold whichP; rw [if_pos hc]
    rw [he]
    exact ⟨rfl, Lib.hid hb⟩
theorem which59_c (t : TitD) (x : TA) (zs : List ZonM) (w : World) (hs : Sizes t) (hT : TitAt w w.heap.size t x zs) (A : Option Addr) (c n : Nat) (l : List Int) (hn : l.length = n) (hl : l.length ≤ 12) (hA : Sl encInt 1 w w.heap.size A l) (k : Int) (r : Int × Int × Int) (hr : r = whichP t l k) :
    Calls Try.prog 59 #[.agg #[.slice x.a t.colours.length x.ca, .slice x.b t.pairs.length x.cb, .slice x.z t.zones.length x.cz, .slice x.r t.ready.length x.cr, .int .i64 t.start, .int .i64 t.rate, .int .i64 t.stop, .int .i64 t.hang], .slice A n c, .int .i64 k] w fun e w' => e = .returned (.tuple #[.int .i64 r.1, .int .i64 r.2.1, .int .i64 r.2.2]) ∧ Hid (Below w.heap.size w w') := by
  subst hn hr
  by_cases hc : checkT t = 0
  · cases ho : ordersB (edsR t).length l
    · refine (rWhich_arg t x zs w hs hT A c l k (by omega) hA hc ho).mono ?_
      rintro e w' ⟨rfl, hb⟩
      have he : whichP t l k = (0, 0, 1) := by unfold whichP; rw [if_neg (by simpa using hc), if_neg (by simp [ho])]
      rw [he]
      exact ⟨rfl, Lib.hid hb⟩
    · have hln := ord_nat ho
      have ho2 := ho
      have hA2 := hA
      rw [hln] at ho2 hA2
      have he : whichP t l k = whichE t (edsR t) (natL l) k := by unfold whichP; rw [if_neg (by simpa using hc), if_pos ho]
      rw [he, ← natL_len l]
      refine (rWhich_ok t x zs w hs hT A c (natL l) k hA2 hc ho2).mono ?_
      rintro e w' ⟨rfl, hb⟩
      exact ⟨rfl, Lib.hid hb⟩
  · refine (rWhich_bad t x zs w hs hT A c l k hc).mono ?_
    rintro e w' ⟨rfl, hb⟩
    have he : whichP t l k = (0, 0, checkT t) := by unfold whichP; rw [if_pos hc]
    rw [he]
    exact ⟨rfl, Lib.hid hb⟩
end Go.Proofs.Ytokdleanpkkdpaa
namespace Go.Proofs.Ytokdleanpkkdpaa
open Go.RowKit Go.Fh Go.Ed
theorem partsP_len (t : TitD) (l : List Int) (hl : l.length ≤ 12) : (partsP t l).length ≤ 1000 := by
  unfold partsP
  split
  · rename_i h
    have h1 : (partsL t (edsR t) (natL l)).length = (zoneL (edsR t) (natL l)).length := partsGo_len _ _ _
    have ho := h.2
    rw [ord_nat h.2] at ho
    have h2 := (zoneL_len (chk_ok h.1) (natL l) (ord_lt ho)).1
    rw [natL_len] at h2
    omega
  · simp
theorem copied_w (t : TitD) (x : TA) (zs : List ZonM) (w : World) (hs : Sizes t) (hT : TitAt w w.heap.size t x zs) :
    Calls Try.prog 39 #[.agg #[.slice x.a t.colours.length x.ca, .slice x.b t.pairs.length x.cb, .slice x.z t.zones.length x.cz, .slice x.r t.ready.length x.cr, .int .i64 t.start, .int .i64 t.rate, .int .i64 t.stop, .int .i64 t.hang]] w fun e w' => ∃ (y1 y2 : TA) (zs1 zs2 : List ZonM), e = .returned (.tuple #[.agg #[.slice y1.a t.colours.length y1.ca, .slice y1.b t.pairs.length y1.cb, .slice y1.z t.zones.length y1.cz, .slice y1.r t.ready.length y1.cr, .int .i64 t.start, .int .i64 t.rate, .int .i64 t.stop, .int .i64 t.hang], .agg #[.slice y2.a t.colours.length y2.ca, .slice y2.b t.pairs.length y2.cb, .slice y2.z t.zones.length y2.cz, .slice y2.r t.ready.length y2.cr, .int .i64 t.start, .int .i64 t.rate, .int .i64 t.stop, .int .i64 t.hang]]) ∧ Hid (TitAt w' w'.heap.size t y1 zs1) ∧ Hid (TitAt w' w'.heap.size t y2 zs2) ∧ Hid (Below w.heap.size w w') :=
  (copied_any t x zs w hs hT).mono (by
    rintro e w' ⟨y1, y2, zs1, zs2, rfl, h1, h2, hb⟩
    exact ⟨y1, y2, zs1, zs2, rfl, h1, h2, hb⟩)
theorem kept_w (t : TitD) (x y : TA) (zs ys : List ZonM) (w : World) (hs : Sizes t) (hT : TitAt w w.heap.size t x zs) (hY : TitAt w w.heap.size t y ys) :
    Calls Try.prog 52 #[.agg #[.slice x.a t.colours.length x.ca, .slice x.b t.pairs.length x.cb, .slice x.z t.zones.length x.cz, .slice x.r t.ready.length x.cr, .int .i64 t.start, .int .i64 t.rate, .int .i64 t.stop, .int .i64 t.hang], .agg #[.slice y.a t.colours.length y.ca, .slice y.b t.pairs.length y.cb, .slice y.z t.zones.length y.cz, .slice y.r t.ready.length y.cr, .int .i64 t.start, .int .i64 t.rate, .int .i64 t.stop, .int .i64 t.hang]] w fun e w' => e = .returned (.bool true) ∧ Hid (Below w.heap.size w w') := kept_any t x y zs ys w hs hT hY
set_option maxRecDepth 20000 in
set_option maxHeartbeats 2000000 in
theorem copies_any (t : TitD) (x : TA) (zs : List ZonM) (w : World) (hs : Sizes t) (hT : TitAt w w.heap.size t x zs) (A : Option Addr) (c n : Nat) (l : List Int) (hn : l.length = n) (hl : l.length ≤ 12) (hA : Sl encInt 1 w w.heap.size A l) (p v k : Int) :
    Calls Try.prog 13 #[.agg #[.slice x.a t.colours.length x.ca, .slice x.b t.pairs.length x.cb, .slice x.z t.zones.length x.cz, .slice x.r t.ready.length x.cr, .int .i64 t.start, .int .i64 t.rate, .int .i64 t.stop, .int .i64 t.hang], .slice A n c, .int .i64 p, .int .i64 v, .int .i64 k] w fun e w' => e = .returned (.bool true) ∧ Below w.heap.size w w' := by
  obtain ⟨w1, hw1⟩ : ∃ W, W = w.alloc (.cells #[.slice x.a t.colours.length x.ca, .slice x.b t.pairs.length x.cb, .slice x.z t.zones.length x.cz, .slice x.r t.ready.length x.cr, .int .i64 t.start, .int .i64 t.rate, .int .i64 t.stop, .int .i64 t.hang] 26) := ⟨_, rfl⟩
  have hb1 : Below w.heap.size w w1 := by rw [hw1]; exact balR (Below.refl _ _) _
  obtain ⟨gT, hgT⟩ : ∃ g, g = w.heap.size := ⟨_, rfl⟩
  have kT : Blk w1 gT 26 (titV t x) := by rw [hw1, hgT]; exact Blk.new _ _ _
  have HR0 := Lib.hid (fun W hb => boxE t x kT W hb)
  obtain ⟨r0, r1, r2, r3, r4, r5, r6, r7⟩ := HR0.out _ (Below.refl _ _)
  have HTX := Lib.hid (fun W (hb : Below w1.heap.size w1 W) => (hT.below (hb1.trans (hb.mono hb1.size))).mono ((hb1.trans (hb.mono hb1.size)).size))
  have HAX := Lib.hid (fun W (hb : Below w1.heap.size w1 W) => (hA.below (hb1.trans (hb.mono hb1.size))).mono ((hb1.trans (hb.mono hb1.size)).size))
  have hn9 : n ≤ 12 := by omega
  have HS := Lib.hid hs
  have HN := Lib.hid hn
  have HL := Lib.hid hl
  have HB1 := Lib.hid hb1
  have HW1 := Lib.hid hw1
  have HGT := Lib.hid hgT
  clear hb1 hw1 hgT kT hT hA hs hn hl
  go_enter Try.func13, Try.ntmps13
  go_upto_region 1 with fail
  rw [← HW1.out, ← HGT.out]
  go_upto_region 2 with (go_at_call 39; refine (copied_w t x zs _ HS.out (HTX.out _ (Below.refl _ _))).mono ?_; rintro e w2 ⟨y1, y2, zs1, zs2, rfl, HY1, HY2, HB2⟩; clear r0 r1 r2 r3 r4 r5 r6 r7)
  obtain ⟨w3, hw3⟩ : ∃ W, W = (w2.alloc (.cells #[.slice y1.a t.colours.length y1.ca, .slice y1.b t.pairs.length y1.cb, .slice y1.z t.zones.length y1.cz, .slice y1.r t.ready.length y1.cr, .int .i64 t.start, .int .i64 t.rate, .int .i64 t.stop, .int .i64 t.hang] 26)).alloc (.cells #[.slice y2.a t.colours.length y2.ca, .slice y2.b t.pairs.length y2.cb, .slice y2.z t.zones.length y2.cz, .slice y2.r t.ready.length y2.cr, .int .i64 t.start, .int .i64 t.rate, .int .i64 t.stop, .int .i64 t.hang] 88) := ⟨_, rfl⟩
  obtain ⟨gA, hgA⟩ : ∃ g, g = w2.heap.size := ⟨_, rfl⟩
  obtain ⟨gB, hgB⟩ : ∃ g, g = w2.heap.size + 1 := ⟨_, rfl⟩
  rw [← hw3, ← hgB, ← hgA]
  have hb23 : Below w2.heap.size w2 w3 := by rw [hw3]; exact balR (balR (Below.refl _ _) _) _
  have kA : Blk w3 gA 26 (titV t y1) := by rw [hw3, hgA]; exact (blkAt rfl 26 _).alloc _
  have kB : Blk w3 gB 88 (titV t y2) := by rw [hw3, hgB]; exact blkAt (by simp) 88 _
  have HB13 := Lib.hid (HB2.out.trans (hb23.mono HB2.out.size))
  have HY13 := Lib.hid ((HY1.out.below hb23).mono hb23.size)
  have HY23 := Lib.hid ((HY2.out.below hb23).mono hb23.size)
  have HA := Lib.hid (fun W hb => boxE t y1 kA W hb)
  have HB := Lib.hid (fun W hb => boxE t y2 kB W hb)
  have HC40 := Lib.hid (show Calls Try.prog 40 #[.slice A n c] w3 fun e w' => ∃ A' c', e = .returned (.slice A' n c') ∧ Hid (Sl encInt 1 w' w'.heap.size A' l) ∧ Hid (Below w3.heap.size w3 w') from by
    have h := cloneOwn_any A c l w3 (by have := HL.out; omega) (HAX.out _ HB13.out)
    rw [HN.out] at h
    refine h.mono ?_
    rintro e w' ⟨A', c', rfl, ho, hb⟩
    rw [← HN.out] at ho
    exact ⟨A', c', rfl, Lib.hid (own_sl ho), Lib.hid hb⟩)
  clear hw3 hgA hgB kA kB hb23 HY1 HY2
  go_upto_region 3 with (go_at_call 40; refine HC40.out.mono ?_; rintro e w4 ⟨A', c', rfl, HO, HB34⟩)
  have HBW := Lib.hid (HB13.out.trans (HB34.out.mono HB13.out.size))
  have HA4 := Lib.hid (fun W (hb : Below w4.heap.size w4 W) => HA.out W (HB34.out.trans (hb.mono HB34.out.size)))
  have HB4 := Lib.hid (fun W (hb : Below w4.heap.size w4 W) => HB.out W (HB34.out.trans (hb.mono HB34.out.size)))
  have HR4 := Lib.hid (fun W (hb : Below w4.heap.size w4 W) => HR0.out W (HBW.out.trans (hb.mono HBW.out.size)))
  have HTA := Lib.hid (fun W (hb : Below w4.heap.size w4 W) => (HY13.out.below (HB34.out.trans (hb.mono HB34.out.size))).mono ((HB34.out.trans (hb.mono HB34.out.size)).size))
  have HTB := Lib.hid (fun W (hb : Below w4.heap.size w4 W) => (HY23.out.below (HB34.out.trans (hb.mono HB34.out.size))).mono ((HB34.out.trans (hb.mono HB34.out.size)).size))
  have HTT := Lib.hid (fun W (hb : Below w4.heap.size w4 W) => HTX.out W (HBW.out.trans (hb.mono HBW.out.size)))
  have HOO := Lib.hid (fun W (hb : Below w4.heap.size w4 W) => (HO.out.below hb).mono hb.size)
  have HAA := Lib.hid (fun W (hb : Below w4.heap.size w4 W) => HAX.out W (HBW.out.trans (hb.mono HBW.out.size)))
  obtain ⟨m, hm⟩ : ∃ m, m = (partsP t l).length := ⟨_, rfl⟩
  have hm9 : m ≤ 1000000000 := by rw [hm]; have := partsP_len t l HL.out; omega
  obtain ⟨er, her⟩ : ∃ e, e = errP t l := ⟨_, rfl⟩
  obtain ⟨rr, hrr⟩ : ∃ r, r = whichP t l k := ⟨_, rfl⟩
  have H27 := Lib.hid (fun W hb => lat27_c t y1 zs1 W HS.out (HTA.out W hb) A' c' n l HN.out HL.out (HOO.out W hb) p v)
  have H55 := Lib.hid (fun W hb => lat55_c t y2 zs2 W HS.out (HTB.out W hb) A c n l HN.out HL.out (HAA.out W hb) p v)
  have H17 := Lib.hid (fun W hb => parts17_c t y1 zs1 W HS.out (HTA.out W hb) A' c' n l HN.out HL.out (HOO.out W hb) m hm)
  have H56 := Lib.hid (fun W hb => parts56_c t y2 zs2 W HS.out (HTB.out W hb) A c n l HN.out HL.out (HAA.out W hb) m hm)
  have H18 := Lib.hid (fun W hb => which18_c t y1 zs1 W HS.out (HTA.out W hb) A' c' n l HN.out HL.out (HOO.out W hb) k rr hrr)
  have H59 := Lib.hid (fun W hb => which59_c t y2 zs2 W HS.out (HTB.out W hb) A c n l HN.out HL.out (HAA.out W hb) k rr hrr)
  have H52 := Lib.hid (fun W hb => kept_w t y1 x zs1 zs W HS.out (HTA.out W hb) (HTT.out W hb))
  have H57 := Lib.hid (fun A5 A6 c5 c6 W h5 h6 => (eqf57_any A5 A6 c5 c6 (partsP t l) m W hm.symm hm9 h5 h6))
  have H19 := Lib.hid (show ∀ W, Below w4.heap.size w4 W → Calls Try.prog 19 #[.slice A' n c', .slice A n c] W fun e w' => e = .returned (.bool true) ∧ Hid (Below W.heap.size W w') from fun W hb => by
    have h := equalInts_any A' A c' c l l W (by have := HL.out; omega) (by have := HL.out; omega) (HOO.out W hb) (HAA.out W hb)
    rw [HN.out] at h
    have h2 : Calls Try.prog 19 #[.slice A' n c', .slice A n c] W fun e w' => e = .returned (.bool true) ∧ Below W.heap.size W w' := by simpa using h
    exact h2)
  rw [← her] at H17 H56
  have HBN := Lib.hid (Below.refl w4.heap.size w4)
  obtain ⟨a0, a1, a2, a3, a4, a5, a6, a7⟩ := HA4.out _ (Below.refl _ _)
  obtain ⟨b0, b1, b2, b3, b4, b5, b6, b7⟩ := HB4.out _ (Below.refl _ _)
  obtain ⟨r0, r1, r2, r3, r4, r5, r6, r7⟩ := HR4.out _ (Below.refl _ _)
  clear hm her hrr hm9
  go_wp2_with first
    | (go_at_call 27; with_reducible refine (H27.out _ HBN.out).mono ?_; rintro e wk ⟨m1, e1, rfl, HP1, hbk⟩; have HBN := Lib.hid (HBN.out.trans (hbk.out.mono HBN.out.size));  clear hbk; clear a0 a1 a2 a3 a4 a5 a6 a7; obtain ⟨a0, a1, a2, a3, a4, a5, a6, a7⟩ := HA4.out _ HBN.out; clear b0 b1 b2 b3 b4 b5 b6 b7; obtain ⟨b0, b1, b2, b3, b4, b5, b6, b7⟩ := HB4.out _ HBN.out; clear r0 r1 r2 r3 r4 r5 r6 r7; obtain ⟨r0, r1, r2, r3, r4, r5, r6, r7⟩ := HR4.out _ HBN.out)
    | (go_at_call 55; with_reducible refine (H55.out _ HBN.out).mono ?_; rintro e wk ⟨m2, e2, rfl, HP2, hbk⟩; have HBN := Lib.hid (HBN.out.trans (hbk.out.mono HBN.out.size)); obtain ⟨rfl, rfl⟩ := latP_uniq HP1.out HP2.out; clear hbk; clear a0 a1 a2 a3 a4 a5 a6 a7; obtain ⟨a0, a1, a2, a3, a4, a5, a6, a7⟩ := HA4.out _ HBN.out; clear b0 b1 b2 b3 b4 b5 b6 b7; obtain ⟨b0, b1, b2, b3, b4, b5, b6, b7⟩ := HB4.out _ HBN.out; clear r0 r1 r2 r3 r4 r5 r6 r7; obtain ⟨r0, r1, r2, r3, r4, r5, r6, r7⟩ := HR4.out _ HBN.out)
    | (go_at_call 17; with_reducible refine (H17.out _ HBN.out).mono ?_; rintro e wk ⟨A5, c5, rfl, HP5, hbk⟩; have HBN := Lib.hid (HBN.out.trans (hbk.out.mono HBN.out.size));  clear hbk; clear a0 a1 a2 a3 a4 a5 a6 a7; obtain ⟨a0, a1, a2, a3, a4, a5, a6, a7⟩ := HA4.out _ HBN.out; clear b0 b1 b2 b3 b4 b5 b6 b7; obtain ⟨b0, b1, b2, b3, b4, b5, b6, b7⟩ := HB4.out _ HBN.out; clear r0 r1 r2 r3 r4 r5 r6 r7; obtain ⟨r0, r1, r2, r3, r4, r5, r6, r7⟩ := HR4.out _ HBN.out)
    | (go_at_call 56; with_reducible refine (H56.out _ HBN.out).mono ?_; rintro e wk ⟨A6, c6, rfl, HP6, hbk⟩; have HBN := Lib.hid (HBN.out.trans (hbk.out.mono HBN.out.size)); have HP5 := Lib.hid ((HP5.out.below hbk.out).mono hbk.out.size); clear hbk; clear a0 a1 a2 a3 a4 a5 a6 a7; obtain ⟨a0, a1, a2, a3, a4, a5, a6, a7⟩ := HA4.out _ HBN.out; clear b0 b1 b2 b3 b4 b5 b6 b7; obtain ⟨b0, b1, b2, b3, b4, b5, b6, b7⟩ := HB4.out _ HBN.out; clear r0 r1 r2 r3 r4 r5 r6 r7; obtain ⟨r0, r1, r2, r3, r4, r5, r6, r7⟩ := HR4.out _ HBN.out)
    | (go_at_call 57; with_reducible refine (H57.out A5 A6 c5 c6 _ HP5.out HP6.out).mono ?_; rintro e wk ⟨rfl, hbk⟩; have HBN := Lib.hid (HBN.out.trans (hbk.mono HBN.out.size)); clear hbk; clear a0 a1 a2 a3 a4 a5 a6 a7; obtain ⟨a0, a1, a2, a3, a4, a5, a6, a7⟩ := HA4.out _ HBN.out; clear b0 b1 b2 b3 b4 b5 b6 b7; obtain ⟨b0, b1, b2, b3, b4, b5, b6, b7⟩ := HB4.out _ HBN.out; clear r0 r1 r2 r3 r4 r5 r6 r7; obtain ⟨r0, r1, r2, r3, r4, r5, r6, r7⟩ := HR4.out _ HBN.out)
    | (go_at_call 18; with_reducible refine (H18.out _ HBN.out).mono ?_; rintro e wk ⟨rfl, hbk⟩; have HBN := Lib.hid (HBN.out.trans (hbk.out.mono HBN.out.size));  clear hbk; clear a0 a1 a2 a3 a4 a5 a6 a7; obtain ⟨a0, a1, a2, a3, a4, a5, a6, a7⟩ := HA4.out _ HBN.out; clear b0 b1 b2 b3 b4 b5 b6 b7; obtain ⟨b0, b1, b2, b3, b4, b5, b6, b7⟩ := HB4.out _ HBN.out; clear r0 r1 r2 r3 r4 r5 r6 r7; obtain ⟨r0, r1, r2, r3, r4, r5, r6, r7⟩ := HR4.out _ HBN.out)
    | (go_at_call 59; with_reducible refine (H59.out _ HBN.out).mono ?_; rintro e wk ⟨rfl, hbk⟩; have HBN := Lib.hid (HBN.out.trans (hbk.out.mono HBN.out.size));  clear hbk; clear a0 a1 a2 a3 a4 a5 a6 a7; obtain ⟨a0, a1, a2, a3, a4, a5, a6, a7⟩ := HA4.out _ HBN.out; clear b0 b1 b2 b3 b4 b5 b6 b7; obtain ⟨b0, b1, b2, b3, b4, b5, b6, b7⟩ := HB4.out _ HBN.out; clear r0 r1 r2 r3 r4 r5 r6 r7; obtain ⟨r0, r1, r2, r3, r4, r5, r6, r7⟩ := HR4.out _ HBN.out)
    | (go_at_call 52; with_reducible refine (H52.out _ HBN.out).mono ?_; rintro e wk ⟨rfl, hbk⟩; have HBN := Lib.hid (HBN.out.trans (hbk.out.mono HBN.out.size));  clear hbk; clear a0 a1 a2 a3 a4 a5 a6 a7; obtain ⟨a0, a1, a2, a3, a4, a5, a6, a7⟩ := HA4.out _ HBN.out; clear b0 b1 b2 b3 b4 b5 b6 b7; obtain ⟨b0, b1, b2, b3, b4, b5, b6, b7⟩ := HB4.out _ HBN.out; clear r0 r1 r2 r3 r4 r5 r6 r7; obtain ⟨r0, r1, r2, r3, r4, r5, r6, r7⟩ := HR4.out _ HBN.out)
    | (go_at_call 19; with_reducible refine (H19.out _ HBN.out).mono ?_; rintro e wk ⟨rfl, hbk⟩; have HBN := Lib.hid (HBN.out.trans (hbk.out.mono HBN.out.size));  clear hbk; clear a0 a1 a2 a3 a4 a5 a6 a7; obtain ⟨a0, a1, a2, a3, a4, a5, a6, a7⟩ := HA4.out _ HBN.out; clear b0 b1 b2 b3 b4 b5 b6 b7; obtain ⟨b0, b1, b2, b3, b4, b5, b6, b7⟩ := HB4.out _ HBN.out; clear r0 r1 r2 r3 r4 r5 r6 r7; obtain ⟨r0, r1, r2, r3, r4, r5, r6, r7⟩ := HR4.out _ HBN.out)
  go_ret
  exact ⟨rfl, HB1.out.trans ((HBW.out.trans (HBN.out.mono HBW.out.size)).mono HB1.out.size)⟩
set_option maxRecDepth 20000 in
set_option maxHeartbeats 2000000 in
theorem editionCopies_walk (haw : ∀ w, Calls Try.prog 12 #[] w fun e w' => e = .returned (.bool true) ∧ Below w.heap.size w w') (t : TitD) (x : TA) (zs : List ZonM) (w : World) (hT : TitAt w w.heap.size t x zs) (A : Option Addr) (c n : Nat) (l : List Int) (hn : l.length = n) (hA : Sl encInt 1 w w.heap.size A l) (p v k : Int) :
    Calls Try.prog 4 #[.agg #[.slice x.a t.colours.length x.ca, .slice x.b t.pairs.length x.cb, .slice x.z t.zones.length x.cz, .slice x.r t.ready.length x.cr, .int .i64 t.start, .int .i64 t.rate, .int .i64 t.stop, .int .i64 t.hang], .slice A n c, .int .i64 p, .int .i64 v, .int .i64 k] w fun e w' => e = .returned (.bool true) ∧ Below w.heap.size w w' := by
  obtain ⟨w1, hw1⟩ : ∃ W, W = w.alloc (.cells #[.slice x.a t.colours.length x.ca, .slice x.b t.pairs.length x.cb, .slice x.z t.zones.length x.cz, .slice x.r t.ready.length x.cr, .int .i64 t.start, .int .i64 t.rate, .int .i64 t.stop, .int .i64 t.hang] 26) := ⟨_, rfl⟩
  have hb1 : Below w.heap.size w w1 := by rw [hw1]; exact balR (Below.refl _ _) _
  obtain ⟨gT, hgT⟩ : ∃ g, g = w.heap.size := ⟨_, rfl⟩
  have kT : Blk w1 gT 26 (titV t x) := by rw [hw1, hgT]; exact Blk.new _ _ _
  have HR0 := Lib.hid (fun W hb => boxE t x kT W hb)
  obtain ⟨r0, r1, r2, r3, r4, r5, r6, r7⟩ := HR0.out _ (Below.refl _ _)
  have HTX := Lib.hid (fun W (hb : Below w1.heap.size w1 W) => (hT.below (hb1.trans (hb.mono hb1.size))).mono ((hb1.trans (hb.mono hb1.size)).size))
  have HAX := Lib.hid (fun W (hb : Below w1.heap.size w1 W) => (hA.below (hb1.trans (hb.mono hb1.size))).mono ((hb1.trans (hb.mono hb1.size)).size))
  have HGR := Lib.hid (show Calls Try.prog 10 #[.agg #[.slice x.a t.colours.length x.ca, .slice x.b t.pairs.length x.cb, .slice x.z t.zones.length x.cz, .slice x.r t.ready.length x.cr, .int .i64 t.start, .int .i64 t.rate, .int .i64 t.stop, .int .i64 t.hang]] w1 fun e w' => e = .returned (.bool (greatB t)) ∧ Below w1.heap.size w1 w' from great_any t x zs w1 (HTX.out _ (Below.refl _ _)))
  obtain ⟨bn, hbn⟩ : ∃ b, b = decide ((12 : Int) < (n : Int)) := ⟨_, rfl⟩
  have hbd := hbn.symm
  have HBN := Lib.hid hbn
  have HN := Lib.hid hn
  have HB1 := Lib.hid hb1
  have HW1 := Lib.hid hw1
  have HGT := Lib.hid hgT
  have HAW := Lib.hid haw
  clear hb1 hw1 hgT kT hT hA hn haw hbn
  cases hg : greatB t
  · have HS := Lib.hid (great_ok hg)
    rw [hg] at HGR
    clear hg
    cases bn
    · have hl : l.length ≤ 12 := by have h1 := HBN.out; have h2 := HN.out; simp at h1; omega
      have HC13 := Lib.hid (show ∀ W, Below w1.heap.size w1 W → Calls Try.prog 13 #[.agg #[.slice x.a t.colours.length x.ca, .slice x.b t.pairs.length x.cb, .slice x.z t.zones.length x.cz, .slice x.r t.ready.length x.cr, .int .i64 t.start, .int .i64 t.rate, .int .i64 t.stop, .int .i64 t.hang], .slice A n c, .int .i64 p, .int .i64 v, .int .i64 k] W fun e w' => e = .returned (.bool true) ∧ Below W.heap.size W w' from fun W hb => copies_any t x zs W HS.out (HTX.out W hb) A c n l HN.out hl (HAX.out W hb) p v k)
      go_enter Try.func4, Try.ntmps4
      go_upto_region 1 with fail
      rw [← HW1.out, ← HGT.out]
      go_wp2_with first
        | (go_at_call 10; refine HGR.out.mono ?_; rintro e w2 ⟨rfl, hb2⟩; have HB2 := Lib.hid hb2; clear hb2 r0 r1 r2 r3 r4 r5 r6 r7; obtain ⟨r0, r1, r2, r3, r4, r5, r6, r7⟩ := HR0.out _ HB2.out)
        | (go_at_call 13; refine (HC13.out _ HB2.out).mono ?_; rintro e w3 ⟨rfl, hb3⟩; have HB3 := Lib.hid hb3; clear hb3)
        | (go_at_call 12; refine (HAW.out _).mono ?_; rintro e w4 ⟨rfl, hb4⟩; have HB4 := Lib.hid hb4; clear hb4)
      go_ret
      exact ⟨rfl, HB1.out.trans ((HB2.out.trans ((HB3.out.trans (HB4.out.mono HB3.out.size)).mono HB2.out.size)).mono HB1.out.size)⟩
    · go_enter Try.func4, Try.ntmps4
      go_upto_region 1 with fail
      rw [← HW1.out, ← HGT.out]
      go_wp2_with first
        | (go_at_call 10; refine HGR.out.mono ?_; rintro e w2 ⟨rfl, hb2⟩; have HB2 := Lib.hid hb2; clear hb2)
        | (go_at_call 12; refine (HAW.out _).mono ?_; rintro e w4 ⟨rfl, hb4⟩; have HB4 := Lib.hid hb4; clear hb4)
      go_ret
      exact ⟨rfl, HB1.out.trans ((HB2.out.trans (HB4.out.mono HB2.out.size)).mono HB1.out.size)⟩
  · rw [hg] at HGR
    clear hg
    go_enter Try.func4, Try.ntmps4
    go_upto_region 1 with fail
    rw [← HW1.out, ← HGT.out]
    go_wp2_with first
      | (go_at_call 10; refine HGR.out.mono ?_; rintro e w2 ⟨rfl, hb2⟩; have HB2 := Lib.hid hb2; clear hb2)
      | (go_at_call 12; refine (HAW.out _).mono ?_; rintro e w4 ⟨rfl, hb4⟩; have HB4 := Lib.hid hb4; clear hb4)
    go_ret
    exact ⟨rfl, HB1.out.trans ((HB2.out.trans (HB4.out.mono HB2.out.size)).mono HB1.out.size)⟩
end Go.Proofs.Ytokdleanpkkdpaa
