/- A title with one page's second set anew is right; its editions; conditions: as they say. -/
import Derived.Test.YtokdleanpkkdpaaZ1
import Derived.Test.YtokdleanpkkdpaaR4
set_option linter.unusedSimpArgs false
set_option linter.unusedVariables false
namespace Go.Ed
open Go.Fh Go.RowKit Go.Proofs.Ytokdleanpkkdpaa
theorem errR_iff {t : TitD} {k : Nat} (hk : k < t.ready.length) : errR t k = 0 ↔ (0 ≤ t.ready[k].1 ∧ t.ready[k].1 ≤ (t.colours.length : Int) - 1) ∧ (0 ≤ t.ready[k].2.1 ∧ t.ready[k].2.1 ≤ 9) ∧ (0 ≤ t.ready[k].2.2 ∧ t.ready[k].2.2 ≤ 86400) ∧ metR t.ready k t.ready[k] = false := by
  unfold errR
  rw [show t.ready.getD k (0, 0, 0) = t.ready[k] by simp [hk]]
  dsimp only
  constructor
  · intro h
    split at h
    · cases h
    · rename_i h1
      simp only [Bool.or_eq_true, not_or, Bool.not_eq_true, Bool.not_eq_false'] at h1
      split at h
      · cases h
      · rename_i h2
        exact ⟨inB_iff.1 h1.1, inB_iff.1 h1.2.1, inB_iff.1 h1.2.2, by simpa using h2⟩
  · rintro ⟨h1, h2, h3, h4⟩
    rw [if_neg (by simp [inB_iff.2 h1, inB_iff.2 h2, inB_iff.2 h3]), if_neg (by simp [h4])]
theorem metR_false {l : List (Int × Int × Int)} {k : Nat} {r : Int × Int × Int} : metR l k r = false ↔ ∀ q ∈ l.take k, ¬ (q.1 = r.1 ∧ q.2.1 = r.2.1) := by
  unfold metR
  rw [List.any_eq_false]
  constructor
  · intro h q hq hh; exact h q hq (by simp [hh])
  · intro h q hq hh; exact h q hq (by simpa using hh)
/-- no two seconds of one page and variant -/
theorem ready_pw {t : TitD} (h : ∀ k, k < t.ready.length → errR t k = 0) : t.ready.Pairwise fun a b => ¬ (a.1 = b.1 ∧ a.2.1 = b.2.1) := by
  rw [List.pairwise_iff_getElem]
  intro i j hi hj hij
  have := metR_false.1 ((errR_iff hj).1 (h j hj)).2.2.2 t.ready[i] (by rw [List.mem_take_iff_getElem]; exact ⟨i, by omega, rfl⟩)
  exact this
theorem errR_of {t : TitD} (hb : ∀ r ∈ t.ready, (0 ≤ r.1 ∧ r.1 ≤ (t.colours.length : Int) - 1) ∧ (0 ≤ r.2.1 ∧ r.2.1 ≤ 9) ∧ (0 ≤ r.2.2 ∧ r.2.2 ≤ 86400)) (hp : t.ready.Pairwise fun a b => ¬ (a.1 = b.1 ∧ a.2.1 = b.2.1)) : ∀ k, k < t.ready.length → errR t k = 0 := by
  intro k hk
  have h1 := hb _ (List.getElem_mem hk)
  refine (errR_iff hk).2 ⟨h1.1, h1.2.1, h1.2.2, metR_false.2 fun q hq => ?_⟩
  obtain ⟨i, hi, rfl⟩ := List.mem_take_iff_getElem.1 hq
  exact List.pairwise_iff_getElem.1 hp i k (by omega) hk (by omega)
theorem chk_ready {t : TitD} (h : checkT t = 0) : t.ready.length ≤ 200 := by
  unfold checkT at h
  split at h
  · cases h
  · rename_i h1
    simp only [Bool.or_eq_true, not_or, Bool.not_eq_true, Bool.not_eq_false', decide_eq_false_iff_not, Nat.not_lt] at h1
    exact h1.2.2
theorem with_er {t : TitD} (h : ChkOk t) {p v a : Int} (hp : 0 ≤ p ∧ p ≤ (t.colours.length : Int) - 1) (hv : 0 ≤ v ∧ v ≤ 9) (ha : 0 ≤ a ∧ a ≤ 86400) : ∀ k, k < (withT t p v a).ready.length → errR (withT t p v a) k = 0 := by
  have hpw := ready_pw h.er
  refine errR_of (t := withT t p v a) (fun r hr => ?_) ?_
  · rcases List.mem_append.1 (show r ∈ rdyW t.ready p v a from hr) with hr | hr
    · have hm := (List.mem_filter.1 hr).1
      obtain ⟨i, hi, rfl⟩ := List.getElem_of_mem hm
      have := (errR_iff hi).1 (h.er i hi)
      exact ⟨this.1, this.2.1, this.2.2.1⟩
    · simp at hr; subst hr; exact ⟨hp, hv, ha⟩
  · show (rdyW t.ready p v a).Pairwise _
    unfold rdyW
    rw [List.pairwise_append]
    refine ⟨hpw.sublist List.filter_sublist, by simp, fun r hr q hq => ?_⟩
    simp at hq; subst hq
    have := (List.mem_filter.1 hr).2
    simp at this
    exact fun hh => by rcases this with h1 | h1; (exact h1 hh.1); (exact h1 hh.2)
theorem with_ok {t : TitD} (hc : checkT t = 0) {p v a : Int} (hp : 0 ≤ p ∧ p ≤ (t.colours.length : Int) - 1) (hv : 0 ≤ v ∧ v ≤ 9) (ha : 0 ≤ a ∧ a ≤ 86400) : ChkOk (withT t p v a) := by
  have h := chk_ok hc
  have hl : (withT t p v a).ready.length ≤ 300 := by
    have h1 := List.length_filter_le (fun r : Int × Int × Int => !(r.1 == p && r.2.1 == v)) t.ready
    have h2 := chk_ready hc
    show (rdyW t.ready p v a).length ≤ 300
    unfold rdyW
    simp only [List.length_append, List.length_singleton]
    omega
  exact ⟨⟨h.ok.c1, h.ok.c4, h.ok.start0, h.ok.start1, h.ok.rate0, h.ok.rate1, h.ok.stop0, h.ok.stop1, h.ok.hang0, h.ok.hang1, h.ok.pair⟩, h.c0, h.z0, h.z1, hl, h.ez, with_er h hp hv ha, by rw [edsN_zones_only (t := withT t p v a) (t' := t) rfl]; exact h.n0, by rw [edsN_zones_only (t := withT t p v a) (t' := t) rfl]; exact h.n1⟩
/-- the check of a title with one second set anew -/
theorem with_check {t : TitD} (hc : checkT t = 0) {p v a : Int} (hp : 0 ≤ p ∧ p ≤ (t.colours.length : Int) - 1) (hv : 0 ≤ v ∧ v ≤ 9) (ha : 0 ≤ a ∧ a ≤ 86400) (hl : (withT t p v a).ready.length ≤ 200) : checkT (withT t p v a) = 0 := by
  have h := chk_ok hc
  have her := firstErr_of (with_er h hp hv ha)
  have hz : firstErr (fun k => errZ (withT t p v a) ((withT t p v a).zones.getD k ⟨0, 0, []⟩)) (withT t p v a).zones.length = 0 := firstErr_of h.ez
  have hn := edsN_zones_only (t := withT t p v a) (t' := t) rfl (withT t p v a).zones.length
  have hn0 := h.n0
  have hn1 := h.n1
  unfold checkT
  rw [hz, her, hn]
  have e1 : inB (t.colours.length : Int) 1 64 = true := inB_iff.2 ⟨by have := h.c0; omega, by have := h.ok.c1; omega⟩
  have e2 : inB (t.zones.length : Int) 1 12 = true := inB_iff.2 ⟨by have := h.z0; omega, by have := h.z1; omega⟩
  have e3 : inB t.start 0 86400 = true := inB_iff.2 ⟨h.ok.start0, h.ok.start1⟩
  have e4 : inB t.rate 1 3000 = true := inB_iff.2 ⟨h.ok.rate0, h.ok.rate1⟩
  have e5 : inB t.stop 0 3600 = true := inB_iff.2 ⟨h.ok.stop0, h.ok.stop1⟩
  have e6 : inB t.hang 0 3600 = true := inB_iff.2 ⟨h.ok.hang0, h.ok.hang1⟩
  have e7 : (t.colours.any fun c => !inB c 1 4) = false := by
    rw [List.any_eq_false]
    intro c hcm
    simp [inB_iff.2 (h.ok.c4 c hcm)]
  have e8 : pairedB (withT t p v a) = true := h.ok.pair
  have e9 : decide (200 < (withT t p v a).ready.length) = false := by simp; omega
  rw [e8, e9]
  show (if (!inB (t.colours.length : Int) 1 64 || (!inB (t.zones.length : Int) 1 12 || false)) = true then (2 : Int) else if (!inB t.start 0 86400 || (!inB t.rate 1 3000 || (!inB t.stop 0 3600 || !inB t.hang 0 3600))) = true then 6 else if (t.colours.any (fun c => !inB c 1 4) || !true) = true then 21 else _) = 0
  rw [e1, e2, e3, e4, e5, e6, e7]
  simp only [Bool.not_true, Bool.or_self, Bool.false_eq_true, if_false, ne_eq, not_true_eq_false]
  rw [if_neg (by show ¬ (edsN t t.zones.length).length = 0; omega), if_neg (by show ¬ 7 < (edsN t t.zones.length).length; omega)]
/-- editions whose seconds are set anew -/
theorem edsR_again {t t' : TitD} (h : t.zones = t'.zones) (es : List EdM) (he : es.map (·.1) = edsR t) : (es.map (withR t')).map (·.1) = edsR t' := by
  have e1 : (es.map (withR t')).map (·.1) = (es.map (·.1)).map fun e => (⟨e.zones, e.copies, readyN t'.ready e.variants t'.ready.length, e.due, e.variants⟩ : EdD) := by rw [List.map_map, List.map_map]; rfl
  rw [e1, he]
  unfold edsR
  rw [List.map_map, h, edsN_zones_only h]
  rfl
end Go.Ed
