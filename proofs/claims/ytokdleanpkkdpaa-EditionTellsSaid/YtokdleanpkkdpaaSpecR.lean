/- Plain laws for the reference: the search for the latest second by halves; the edition of a zone. Conditions: a right title. -/
import Derived.Test.YtokdleanpkkdpaaZ4
import Derived.Test.YtokdleanpkkdpaaE4
import Derived.Test.YtokdleanpkkdpaaU5
set_option linter.unusedSimpArgs false
set_option linter.unusedVariables false
namespace Go.Ed
open Go.Fh Go.RowKit Go.Proofs.Ytokdleanpkkdpaa
/-- a power of two, or nothing -/
def Pw (s : Nat) : Prop := s = 0 ∨ ∃ k, s = 2 ^ k
theorem Pw.half {s : Nat} (h : Pw s) (h0 : 0 < s) : Pw (s / 2) ∧ max 1 (2 * (s / 2)) = s := by
  rcases h with h | ⟨k, rfl⟩
  · omega
  · cases k with
    | zero => exact ⟨.inl rfl, rfl⟩
    | succ k =>
      have h1 : 2 ^ (k + 1) / 2 = 2 ^ k := by rw [Nat.pow_succ]; omega
      have h2 : 0 < 2 ^ k := Nat.pow_pos (by omega)
      refine ⟨.inr ⟨k, h1⟩, ?_⟩
      rw [h1, Nat.pow_succ]
      omega
theorem pw16 : Pw 65536 := .inr ⟨16, by decide⟩
/-- what the search knows: a second in time, and from where on none is -/
structure SeaI (t : TitD) (o : List Nat) (p v : Int) (s : Nat) (a : Int) : Prop where
  pw : Pw s
  a0 : 0 ≤ a
  a1 : a ≤ 86400
  yes : inTW t o p v a = true
  no : ∀ m, a + (max 1 (2 * s) : Nat) ≤ m → m ≤ 86400 → inTW t o p v m = false
theorem SeaI.start {t : TitD} {o : List Nat} {p v : Int} (h : inTW t o p v 0 = true) : SeaI t o p v 65536 0 :=
  ⟨pw16, by omega, by omega, h, fun m h1 h2 => by simp at h1; omega⟩
theorem SeaI.go {t : TitD} {o : List Nat} {p v : Int} {s : Nat} {a : Int} (h : SeaI t o p v s a) (hs : 0 < s) (h1 : a + s ≤ 86400) (h2 : inTW t o p v (a + s) = true) : SeaI t o p v (s / 2) (a + s) := by
  obtain ⟨hp, hm⟩ := h.pw.half hs
  refine ⟨hp, by have := h.a0; omega, h1, h2, fun m m1 m2 => h.no m ?_ m2⟩
  rw [hm] at m1
  have : max 1 (2 * s) = 2 * s := by omega
  rw [this]
  omega
theorem SeaI.stay {t : TitD} {o : List Nat} {p v : Int} {s : Nat} {a : Int} (h : SeaI t o p v s a) (hs : 0 < s) (h1 : 86400 < a + s ∨ inTW t o p v (a + s) = false) : SeaI t o p v (s / 2) a := by
  obtain ⟨hp, hm⟩ := h.pw.half hs
  refine ⟨hp, h.a0, h.a1, h.yes, fun m m1 m2 => ?_⟩
  rw [hm] at m1
  rcases h1 with h1 | h1
  · omega
  · exact inTW_anti m1 h1
theorem SeaI.fin {t : TitD} {o : List Nat} {p v : Int} {a : Int} (h : SeaI t o p v 0 a) : LatI t o p v a :=
  ⟨h.a0, h.a1, h.yes, fun m m1 m2 => h.no m (by simp; omega) m2⟩
/-- in an order a zone's edition is the one with the zone's variants -/
theorem zone_ed (t : TitD) {o : List Nat} {z : Int} (hz : z ∈ zoneL (edsR t) o) : ∃ k, ∃ hk : k < (edsR t).length, z ∈ (edsR t)[k].zones ∧ (edsR t)[k].variants = (t.zones.getD z.toNat zon0).variants ∧ 0 ≤ z ∧ z < (t.zones.length : Int) := by
  unfold zoneL at hz
  obtain ⟨e, he, hz⟩ := List.mem_flatMap.1 hz
  by_cases hk : e < (edsR t).length
  · rw [List.getD_eq_getElem?_getD, List.getElem?_eq_getElem hk] at hz
    have := edsR_vars t _ (List.getElem_mem hk) z hz
    exact ⟨e, hk, hz, this.2.2.symm, this.1, this.2.1⟩
  · rw [List.getD_eq_getElem?_getD, List.getElem?_eq_none (by omega)] at hz
    simp [ed0] at hz
theorem zone_same (t : TitD) {o : List Nat} {z : Int} (hz : z ∈ zoneL (edsR t) o) (k : Nat) (hk : k < (edsR t).length) : ((edsR t)[k].zones.any fun y => z == y) = decide ((edsR t)[k].variants = (t.zones.getD z.toNat zon0).variants) := by
  obtain ⟨q, hq, h1, h2, h3, h4⟩ := zone_ed t hz
  rw [Bool.eq_iff_iff]
  simp only [decide_eq_true_eq, List.any_eq_true, beq_iff_eq]
  constructor
  · rintro ⟨y, hy, rfl⟩
    exact (edsR_vars t _ (List.getElem_mem hk) z hy).2.2.symm
  · intro h
    have hn := edsR_nodup t
    have : k = q := by
      have e : ((edsR t).map EdD.variants)[k]'(by simpa using hk) = ((edsR t).map EdD.variants)[q]'(by simpa using hq) := by simp [h, h2]
      exact (List.getElem_inj hn).1 e
    subst this
    exact ⟨z, h1, rfl⟩
/-- the first edition with a zone's variants is the zone's edition -/
theorem zone_find (t : TitD) {o : List Nat} {z : Int} (hz : z ∈ zoneL (edsR t) o) {k : Nat} (hk : k < (edsR t).length) (h0 : ∀ j (hj : j < k), (edsR t)[j].variants ≠ (t.zones.getD z.toNat zon0).variants) (h1 : (edsR t)[k].variants = (t.zones.getD z.toNat zon0).variants) :
    findI (fun e => e.zones.any fun y => z == y) (edsR t) = k := by
  refine findI_hit hk ?_ ?_
  · intro x hx
    obtain ⟨j, hj, rfl⟩ := List.getElem_of_mem hx
    have hj' : j < k := by simp at hj; omega
    rw [List.getElem_take, zone_same t hz j (by omega)]
    simpa using h0 j hj'
  · rw [zone_same t hz k hk]
    simpa using h1
theorem part_zone (t : TitD) {o : List Nat} {p : Int × Int × Int} (hp : p ∈ partsL t (edsR t) o) : p.1 ∈ zoneL (edsR t) o := by
  unfold partsL at hp
  obtain ⟨k, hk, rfl⟩ := List.getElem_of_mem hp
  have hk' : k < (zoneL (edsR t) o).length := by rw [partsGo_len] at hk; exact hk
  rw [partsGo_get t _ _ _ hk']
  exact List.getElem_mem hk'
end Go.Ed
