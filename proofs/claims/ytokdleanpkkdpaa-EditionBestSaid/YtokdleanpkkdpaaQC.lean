/- Plain laws and memory words for the change of editions; conditions: as they say. -/
import Derived.Test.YtokdleanpkkdpaaY2
import Derived.Deep.QuietTactic
import Derived.BigQuiet
import Derived.Deep.RegionHeld3
import Derived.Deep.DeepCutAuto
set_option linter.unusedSimpArgs false
set_option linter.unusedVariables false
namespace Go.Ed
theorem change_zero {t : TitD} (h : ChkOk t) {a b : Nat} (ha : a < (edsR t).length) (hb : b < (edsR t).length) : changeB t ((edsR t).getD a ed0) ((edsR t).getD b ed0) = 0 ↔ a = b := by
  have hg := good_of_paired h.ok.pair
  constructor
  · intro h0
    by_cases hab : a = b
    · exact hab
    · exfalso
      have hva := (edsR_zn h (getD_mem ha)).2
      have hvb := (edsR_zn h (getD_mem hb)).2
      have hne : ((edsR t).getD a ed0).variants ≠ ((edsR t).getD b ed0).variants := by
        intro e
        have hd := edsR_nodup t
        have hg1 : (edsR t).getD a ed0 = (edsR t)[a] := by simp [ha]
        have hg2 : (edsR t).getD b ed0 = (edsR t)[b] := by simp [hb]
        rw [hg1, hg2] at e
        rcases Nat.lt_or_gt_of_ne hab with hlt | hgt
        · exact List.pairwise_iff_getElem.1 hd a b (by simpa using ha) (by simpa using hb) hlt (by simpa using e)
        · exact List.pairwise_iff_getElem.1 hd b a (by simpa using hb) (by simpa using ha) hgt (by simpa using e.symm)
      apply hne
      have key := fun p hp hq => changeB_pos hg h.ok.c4 (a := (edsR t).getD a ed0) (b := (edsR t).getD b ed0) (p := p) hp hq
      rw [h0] at key
      generalize ((edsR t).getD a ed0).variants = va at hva key ⊢
      generalize ((edsR t).getD b ed0).variants = vb at hvb key ⊢
      refine List.ext_getElem (by omega) fun p h1 h2 => ?_
      by_cases hp : va.getD p (-1) = vb.getD p (-1)
      · simpa [h1, h2] using hp
      · have := key p (by omega) hp
        omega
  · rintro rfl; exact changeB_self hg _
end Go.Ed
namespace Go.Proofs.Ytokdleanpkkdpaa
open Go.RowKit Go.Fh Go.Ed
theorem Sl.atSlo {B : Nat} {w : World} {A : Option Addr} {l : List SloD} (h : Sl encSlo 4 w B A l) {k : Nat} (hk : k < l.length) :
    ∃ b off, A = some ⟨b, off, none⟩ ∧ b < B ∧ w.cell? ⟨b, off + k * 4, none⟩ = some (.int .i64 l[k].edition) ∧ w.cell? ⟨b, off + k * 4 + 1, none⟩ = some (.int .i64 l[k].plates) ∧ w.cell? ⟨b, off + k * 4 + 2, none⟩ = some (.int .i64 l[k].beg) ∧ w.cell? ⟨b, off + k * 4 + 3, none⟩ = some (.int .i64 l[k].fin) := by
  obtain ⟨b, off, hA, hb, hc⟩ := h.at_ hk
  exact ⟨b, off, hA, hb, hc 0 _ rfl, hc 1 _ rfl, hc 2 _ rfl, hc 3 _ rfl⟩
theorem Sl.atSlo' {B : Nat} {w : World} {b off : Nat} {l : List SloD} (h : Sl encSlo 4 w B (some ⟨b, off, none⟩) l) {k : Nat} (hk : k < l.length) :
    w.cell? ⟨b, off + k * 4 + 1, none⟩ = some (.int .i64 l[k].plates) ∧ w.cell? ⟨b, off + k * 4 + 3, none⟩ = some (.int .i64 l[k].fin) := by
  obtain ⟨b', off', hA, hb, e0, e1, e2, e3⟩ := Sl.atSlo h hk
  injection hA with hA; injection hA with h1 h2
  subst h1 h2
  exact ⟨e1, e3⟩
theorem Sl.at1' {B : Nat} {w : World} {b off : Nat} {l : List Int} (h : Sl encInt 1 w B (some ⟨b, off, none⟩) l) {k : Nat} (hk : k < l.length) : w.cell? ⟨b, off + k, none⟩ = some (.int .i64 l[k]) := by
  obtain ⟨b', off', hA, hb, e0⟩ := Sl.at1 h hk
  injection hA with hA; injection hA with h1 h2
  subst h1 h2
  exact e0
end Go.Proofs.Ytokdleanpkkdpaa
