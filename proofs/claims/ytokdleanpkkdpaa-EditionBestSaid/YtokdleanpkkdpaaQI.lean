/- Contracts of the search among parts at the closure of EditionZones; what Which finds; conditions: as they say. -/
import Derived.Test.YtokdleanpkkdpaaY2
set_option linter.unusedSimpArgs false
set_option linter.unusedVariables false
namespace Go.Ed
theorem findI_sat {α : Type} {p : α → Bool} : ∀ {l : List α}, 0 ≤ findI p l → ∃ (h : (findI p l).toNat < l.length), p l[(findI p l).toNat] = true := by
  intro l
  induction l with
  | nil => intro h; simp [findI] at h
  | cons x l ih =>
    intro h
    by_cases hx : p x = true
    · have e : findI p (x :: l) = 0 := by simp [findI, hx]
      rw [e]
      exact ⟨by simp, by simpa using hx⟩
    · by_cases hl : findI p l < 0
      · exfalso
        have e : findI p (x :: l) = -1 := by simp [findI, hx, hl]
        rw [e] at h; omega
      · have e : findI p (x :: l) = findI p l + 1 := by simp [findI, hx, hl]
        obtain ⟨h1, h2⟩ := ih (by omega)
        have e2 : (findI p (x :: l)).toNat = (findI p l).toNat + 1 := by rw [e]; omega
        rw [e2]
        exact ⟨by simpa using h1, by simpa using h2⟩
theorem partsGo_mem (t : TitD) : ∀ (zs : List Int) (n : Int), ∀ p ∈ partsGo t n zs, p.1 ∈ zs := by
  intro zs
  induction zs with
  | nil => intro n p hp; simp [partsGo] at hp
  | cons z zs ih =>
    intro n p hp
    rcases List.mem_cons.1 hp with rfl | hp
    · simp
    · exact List.mem_cons_of_mem _ (ih _ p hp)
theorem which_hit {t : TitD} {o : List Nat} (hoe : ∀ e ∈ o, e < (edsR t).length) {k : Int} (h0 : 0 ≤ k) (h1 : k < sumC t (zoneL (edsR t) o)) :
    ∃ (z x : Nat) (lo hi : Int), ((z : Int), lo, hi) ∈ partsL t (edsR t) o ∧ lo ≤ k ∧ k ≤ hi ∧ whichE t (edsR t) o k = ((z : Int), (x : Int), 0) ∧ z < t.zones.length ∧ x < (edsR t).length ∧ ((edsR t).getD x ed0).variants = (t.zones.getD z zon0).variants := by
  obtain ⟨p0, hp0, hlo, hhi⟩ := copy_find t (zoneL (edsR t) o) 0 k h0 (by omega)
  have hsome : ((partsL t (edsR t) o).find? fun p => inB k p.2.1 p.2.2).isSome = true := by
    rw [List.find?_isSome]
    exact ⟨p0, hp0, inB_iff.2 ⟨hlo, hhi⟩⟩
  obtain ⟨⟨pz, lo, hi⟩, hp⟩ := Option.isSome_iff_exists.1 hsome
  have hm := List.mem_of_find?_eq_some hp
  have hs := inB_iff.1 (List.find?_some (p := fun p : Int × Int × Int => inB k p.2.1 p.2.2) hp)
  have hz := partsGo_mem t _ _ _ hm
  unfold zoneL at hz
  obtain ⟨e, he, hze⟩ := List.mem_flatMap.1 hz
  have hee := hoe e he
  have hv := edsR_vars t _ (getD_mem hee) pz hze
  obtain ⟨f, hf⟩ : ∃ f, f = findI (fun e : EdD => e.zones.any fun z => pz == z) (edsR t) := ⟨_, rfl⟩
  have hany : (edsR t).any (fun e : EdD => e.zones.any fun z => pz == z) = true := by
    rw [List.any_eq_true]
    exact ⟨_, getD_mem hee, by rw [List.any_eq_true]; exact ⟨pz, hze, by simp⟩⟩
  rw [← findI_any, ← hf] at hany
  have hf0 : 0 ≤ f := by simpa using hany
  obtain ⟨hx, hsat⟩ := findI_sat (p := fun e : EdD => e.zones.any fun z => pz == z) (l := edsR t) (by rw [← hf]; exact hf0)
  simp only [← hf] at hx hsat
  rw [List.any_eq_true] at hsat
  obtain ⟨y, hy, hyz⟩ := hsat
  have hyz : pz = y := by simpa using hyz
  subst hyz
  have hv2 := edsR_vars t _ (List.getElem_mem hx) pz hy
  have hpz : ((pz.toNat : Nat) : Int) = pz := by omega
  refine ⟨pz.toNat, f.toNat, lo, hi, by rw [hpz]; exact hm, hs.1, hs.2, ?_, by omega, hx, ?_⟩
  · unfold whichE
    rw [hp, hpz, show ((f.toNat : Nat) : Int) = f by omega, hf]
  · have : (edsR t).getD f.toNat ed0 = (edsR t)[f.toNat] := by simp [hx]
    rw [this, ← hv2.2.2]
theorem which_none {t : TitD} {o : List Nat} (hcp : ∀ z ∈ zoneL (edsR t) o, 0 ≤ copZ t z) : whichE t (edsR t) o (sumC t (zoneL (edsR t) o)) = (0, 0, 6) := by
  have hn : ((partsL t (edsR t) o).find? fun p => inB (sumC t (zoneL (edsR t) o)) p.2.1 p.2.2) = none := by
    rw [List.find?_eq_none]
    intro p hp
    have := copy_none t hcp p hp
    simp [inB]; omega
  unfold whichE
  rw [hn]
end Go.Ed
namespace Go.Proofs.Ytokdleanpkkdpaa
open Go.RowKit Go.Fh Go.Ed
/-- the test of the closure: the zone's copies hold a copy -/
def hitB (zz k : Int) (p : Int × Int × Int) : Bool := decide (p.1 = zz) && decide (p.2.1 ≤ k) && decide (k ≤ p.2.2)
set_option maxRecDepth 20000 in
set_option maxHeartbeats 1000000 in
theorem hit_any (gZ gK : Nat) (zz k : Int) (z lo hi : Int) (w : World) (hZ : w.cell? ⟨gZ, 0, none⟩ = some (.int .i64 zz)) (hK : w.cell? ⟨gK, 0, none⟩ = some (.int .i64 k)) :
    Calls Try.prog 21 #[.agg #[.int .i64 z, .int .i64 lo, .int .i64 hi], .pointer (some ⟨gZ, 0, none⟩), .pointer (some ⟨gK, 0, none⟩)] w fun e w' => e = .returned (.bool (hitB zz k (z, lo, hi))) ∧ Below w.heap.size w w' := by
  have h1 := block_lt_of_cell hZ
  have h2 := block_lt_of_cell hK
  simp only at h1 h2
  have hb : Below w.heap.size w (w.alloc (.cells #[.int .i64 z, .int .i64 lo, .int .i64 hi] 45)) := (Below.refl _ _).alloc (Nat.le_refl _) _
  have HB := Lib.hid hb
  clear hb
  by_cases c1 : z = zz
  · have t1 : (z == zz) = true := by simp [c1]
    by_cases c2 : lo ≤ k
    · have t2 : decide (lo ≤ k) = true := by simp [c2]
      by_cases c3 : k ≤ hi
      · have t3 : decide (k ≤ hi) = true := by simp [c3]
        have HR := Lib.hid (show hitB zz k (z, lo, hi) = true by simp [hitB, c1, c2, c3])
        clear c1 c2 c3
        go_enter Try.func21, Try.ntmps21
        go_wp2_with fail
        go_ret
        exact ⟨by rw [HR.out]; rfl, HB.out⟩
      · have t3 : decide (k ≤ hi) = false := by simp; omega
        have HR := Lib.hid (show hitB zz k (z, lo, hi) = false by simp [hitB, c1, c2]; omega)
        clear c1 c2 c3
        go_enter Try.func21, Try.ntmps21
        go_wp2_with fail
        go_ret
        exact ⟨by rw [HR.out]; rfl, HB.out⟩
    · have t2 : decide (lo ≤ k) = false := by simp; omega
      have HR := Lib.hid (show hitB zz k (z, lo, hi) = false by simp [hitB, c1]; omega)
      clear c1 c2
      go_enter Try.func21, Try.ntmps21
      go_wp2_with fail
      go_ret
      exact ⟨by rw [HR.out]; rfl, HB.out⟩
  · have t1 : (z == zz) = false := by simp [c1]
    have HR := Lib.hid (show hitB zz k (z, lo, hi) = false by simp [hitB, c1])
    clear c1
    go_enter Try.func21, Try.ntmps21
    go_wp2_with fail
    go_ret
    exact ⟨by rw [HR.out]; rfl, HB.out⟩
set_option maxRecDepth 20000 in
set_option maxHeartbeats 1000000 in
theorem idxHit_any (gZ gK : Nat) (A : Option Addr) (c : Nat) (l : List (Int × Int × Int)) (zz k : Int) (w : World) (hl : l.length ≤ 9223372036854775807) (hA : Sl enc3 3 w w.heap.size A l)
    (hF : ∀ j (hj : j < l.length) W, Below w.heap.size w W → Calls Try.prog 21 #[.agg #[.int .i64 l[j].1, .int .i64 l[j].2.1, .int .i64 l[j].2.2], .pointer (some ⟨gZ, 0, none⟩), .pointer (some ⟨gK, 0, none⟩)] W fun e w' => e = .returned (.bool (hitB zz k l[j])) ∧ Below W.heap.size W w') :
    Calls Try.prog 69 #[.slice A l.length c, .func (.func 21) #[] #[.pointer (some ⟨gZ, 0, none⟩), .pointer (some ⟨gK, 0, none⟩)]] w fun e w' => e = .returned (.int .i64 (findI (hitB zz k) l)) ∧ Below w.heap.size w w' := by
  have HA := Lib.hid hA
  have HF := Lib.hid hF
  clear hA hF
  go_enter Try.func69, Try.ntmps69
  go_wp2
  go_loopw [8] (fun i wr => ∃ k' : Nat, k' ≤ l.length ∧ i = .int .i64 k' ∧ Hid (∀ x ∈ l.take k', hitB zz k x = false) ∧ Below w.heap.size w wr) (fun i _ => l.length - (intOf i).toNat)
  case atStart => exact ⟨0, Nat.zero_le _, rfl, by simp [Hid], Below.refl _ _⟩
  case round =>
    obtain ⟨k', hk, rfl, HN, hB⟩ := hrel
    have HB := Lib.hid hB
    by_cases hlt : k' < l.length
    · obtain ⟨b, off, rfl, hb, c0, c1, c2⟩ := (HA.out.below hB).at3 hlt
      have HC := Lib.hid (HF.out k' hlt wr hB)
      clear hB
      cases hw : hitB zz k l[k']
      · rw [hw] at HC
        have HW := Lib.hid hw
        clear hw
        go_wp2_with (go_at_call 21; refine HC.out.mono ?_; rintro e w' ⟨rfl, hb'⟩; have HB2 := Lib.hid (HB.out.trans (hb'.mono HB.out.size)); clear hb')
        go_roundw
        case rel =>
          refine ⟨k' + 1, by omega, by go_num, ?_, HB2.out⟩
          intro x hx
          rw [List.take_succ_eq_append_getElem hlt, List.mem_append] at hx
          rcases hx with hx | hx
          · exact HN.out x hx
          · simp at hx; subst hx; exact HW.out
        case measure => simp [intOf]; omega
      · rw [hw] at HC
        have HR := Lib.hid (findI_hit (p := hitB zz k) hlt HN.out hw)
        clear hw
        go_wp2_with (go_at_call 21; refine HC.out.mono ?_; rintro e w' ⟨rfl, hb'⟩; have HB2 := Lib.hid (HB.out.trans (hb'.mono HB.out.size)); clear hb')
        go_ret
        exact ⟨ret_int HR.out.symm, HB2.out⟩
    · clear hB
      go_wp2
      go_ret
      exact ⟨ret_int (findI_miss (fun x hx => HN.out x (by rw [List.take_of_length_le (by omega)]; exact hx))).symm, HB.out⟩
set_option maxRecDepth 20000 in
set_option maxHeartbeats 1000000 in
theorem hasHit_any (gZ gK : Nat) (A : Option Addr) (c m : Nat) (l : List (Int × Int × Int)) (hm : m = l.length) (zz k : Int) (w : World) (hl : l.length ≤ 9223372036854775807) (hA : Sl enc3 3 w w.heap.size A l)
    (hF : ∀ j (hj : j < l.length) W, Below w.heap.size w W → Calls Try.prog 21 #[.agg #[.int .i64 l[j].1, .int .i64 l[j].2.1, .int .i64 l[j].2.2], .pointer (some ⟨gZ, 0, none⟩), .pointer (some ⟨gK, 0, none⟩)] W fun e w' => e = .returned (.bool (hitB zz k l[j])) ∧ Below W.heap.size W w') (hy : l.any (hitB zz k) = true) :
    Calls Try.prog 20 #[.slice A m c, .func (.func 21) #[] #[.pointer (some ⟨gZ, 0, none⟩), .pointer (some ⟨gK, 0, none⟩)]] w fun e w' => e = .returned (.bool true) ∧ Below w.heap.size w w' := by
  subst hm
  have hf := findI_any (hitB zz k) l
  rw [hy] at hf
  have HC := Lib.hid (idxHit_any gZ gK A c l zz k w hl hA hF)
  obtain ⟨f, hfe⟩ : ∃ f, f = findI (hitB zz k) l := ⟨_, rfl⟩
  rw [← hfe] at hf HC
  clear hA hF hfe hy
  go_enter Try.func20, Try.ntmps20
  go_wp2_with (go_at_call 69; refine HC.out.mono ?_; rintro e w' ⟨rfl, hb⟩; have HB := Lib.hid hb; clear hb)
  go_ret
  exact ⟨rfl, HB.out⟩
end Go.Proofs.Ytokdleanpkkdpaa
