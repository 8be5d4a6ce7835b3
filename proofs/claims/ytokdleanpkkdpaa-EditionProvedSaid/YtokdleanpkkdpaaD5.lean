/- Contract of open's first loop: editions of zones; conditions: a title that is right. -/
import Derived.Test.YtokdleanpkkdpaaD4
import Derived.Deep.AppendLies
import Derived.Deep.Draws
set_option linter.unusedSimpArgs false
set_option linter.unusedVariables false
namespace Go.Ed
/-- the editions with the one of a zone among them -/
def preZ (es : List EdD) (z : ZonD) : List EdD := if es.any (fun e => e.variants == z.variants) then es else es ++ [⟨[], 0, 0, 86400, z.variants⟩]
/-- an edition with a zone more -/
def updZ (e : EdD) (i : Int) (z : ZonD) : EdD := ⟨e.zones ++ [i], e.copies + z.copies, e.ready, min e.due z.due, e.variants⟩
theorem map_one (f : EdD → EdD) (v : List Int) : ∀ (es : List EdD) (n : Nat) (h : n < es.length), (es.map EdD.variants).Nodup → es[n].variants = v → (es.map fun e => if e.variants == v then f e else e) = es.set n (f es[n])
  | [], n, h, _, _ => by simp at h
  | e :: es, 0, h, hn, hv => by
    simp only [List.getElem_cons_zero] at hv
    simp only [List.map_cons, List.set_cons_zero, List.getElem_cons_zero, hv, beq_self_eq_true, if_true]
    congr 1
    have : ∀ x ∈ es, (if x.variants == v then f x else x) = x := by
      intro x hx
      rw [if_neg]
      intro h
      rw [List.map_cons, List.nodup_cons] at hn
      exact hn.1 (by rw [hv]; exact List.mem_map.2 ⟨x, hx, by simpa using h⟩)
    rw [List.map_congr_left this]; simp
  | e :: es, n + 1, h, hn, hv => by
    rw [List.map_cons, List.nodup_cons] at hn
    have h' : n < es.length := by simpa using h
    have ih := map_one f v es n h' hn.2 (by simpa using hv)
    simp only [List.map_cons, List.set_cons_succ, List.getElem_cons_succ, ih]
    congr 1
    rw [if_neg]
    intro q
    have q' : e.variants = v := by simpa using q
    exact hn.1 (by rw [q', ← hv]; exact List.mem_map.2 ⟨es[n], List.getElem_mem h', by simp⟩)
theorem addZ_at {es : List EdD} (hn : (es.map EdD.variants).Nodup) {i : Int} {z : ZonD} (hc : z.copies ≠ 0) {n : Nat} (h : n < (preZ es z).length) (hv : (preZ es z)[n].variants = z.variants) : addZ es i z = (preZ es z).set n (updZ (preZ es z)[n] i z) := by
  unfold addZ
  rw [if_neg hc]
  by_cases ha : (es.any fun e => e.variants == z.variants) = true
  · have hp : preZ es z = es := by unfold preZ; rw [if_pos ha]
    rw [if_pos ha]
    simp only [hp] at h hv ⊢
    exact map_one (fun e => updZ e i z) z.variants es n h hn hv
  · have hp : preZ es z = es ++ [⟨[], 0, 0, 86400, z.variants⟩] := by unfold preZ; rw [if_neg ha]
    rw [if_neg ha]
    simp only [hp] at h hv ⊢
    have hnn : n = es.length := by
      rcases Nat.lt_or_ge n es.length with q | q
      · exfalso
        rw [List.getElem_append_left q] at hv
        exact ha (List.any_eq_true.2 ⟨es[n], List.getElem_mem q, by simp [hv]⟩)
      · simp at h; omega
    subst hnn
    simp [updZ]
theorem preZ_any {es : List EdD} {z : ZonD} (h : z.variants ∈ es.map EdD.variants) : preZ es z = es := by
  unfold preZ
  rw [if_pos]
  obtain ⟨e, he, q⟩ := List.mem_map.1 h
  exact List.any_eq_true.2 ⟨e, he, by simp [q]⟩
theorem preZ_none {es : List EdD} {z : ZonD} (h : z.variants ∉ es.map EdD.variants) : preZ es z = es ++ [⟨[], 0, 0, 86400, z.variants⟩] := by
  unfold preZ
  rw [if_neg]
  intro ha
  obtain ⟨e, he, q⟩ := List.any_eq_true.1 ha
  exact h (List.mem_map.2 ⟨e, he, by simpa using q⟩)
open Go.Fh
/-- a map of indices -/
def Idx (m : List (ArrK 64 × Int)) (ks : List (List Int)) : Prop := m.map (·.1.1) = ks ∧ ∀ j (h : j < m.length), m[j].2 = (j : Int)
theorem mget_some {κ ν : Type} [DecidableEq κ] : ∀ (m : List (κ × ν)) (x : κ) (v : ν), mget m x = some v → ∃ n, ∃ h : n < m.length, m[n].1 = x ∧ m[n].2 = v
  | [], x, v, h => by simp [mget] at h
  | p :: m, x, v, h => by
    by_cases q : x = p.1
    · simp only [mget, if_pos q] at h
      exact ⟨0, by simp, q.symm, by simpa using h⟩
    · simp only [mget, if_neg q] at h
      obtain ⟨n, hn, h1, h2⟩ := mget_some m x v h
      exact ⟨n + 1, by simpa using hn, by simpa using h1, by simpa using h2⟩
theorem Idx.len {m : List (ArrK 64 × Int)} {ks : List (List Int)} (h : Idx m ks) : m.length = ks.length := by rw [← h.1]; simp
theorem Idx.found {m : List (ArrK 64 × Int)} {ks : List (List Int)} (h : Idx m ks) {x : ArrK 64} {v : Int} (hg : mget m x = some v) : ∃ n, ∃ hn : n < ks.length, v = (n : Int) ∧ ks[n] = x.1 := by
  obtain ⟨n, hn, h1, h2⟩ := mget_some m x v hg
  refine ⟨n, by rw [← h.len]; exact hn, by rw [← h2, h.2 n hn], ?_⟩
  have : ks[n]'(by rw [← h.len]; exact hn) = (m.map (·.1.1))[n]'(by simpa using hn) := by simp only [h.1]
  rw [this, List.getElem_map, h1]
theorem Idx.more {m : List (ArrK 64 × Int)} {ks : List (List Int)} (h : Idx m ks) {x : ArrK 64} (hg : mget m x = none) : Idx (mset m x (ks.length : Int)) (ks ++ [x.1]) := by
  have hm : mset m x (ks.length : Int) = m ++ [(x, (ks.length : Int))] := by
    clear h
    generalize (ks.length : Int) = v
    induction m with
    | nil => rfl
    | cons p m ih =>
      by_cases q : x = p.1
      · simp [mget, q] at hg
      · simp only [mget, if_neg q] at hg
        simp only [mset, if_neg q, ih hg, List.cons_append]
  rw [hm]
  refine ⟨by simp [h.1], fun j hj => ?_⟩
  by_cases q : j < m.length
  · rw [List.getElem_append_left q, h.2 j q]
  · have : j = m.length := by simp at hj; omega
    subst this
    simp [h.len]
end Go.Ed
namespace Go.Proofs.Ytokdleanpkkdpaa
open Go.RowKit Go.Fh Go.Ed
theorem zero3 : ∀ w, (zeroValue 3).run Try.prog w = .ok (.int .i64 0) w := fun w => by kernel_rfl
theorem infoEd : (Try.prog.info? 52).map (fun i => (i.zero, i.size, i.bytes)) = some (some (.agg #[.slice none 0 0, .int .i64 0, .int .i64 0, .int .i64 0, .slice none 0 0]), 5, 72) := by kernel_rfl
end Go.Proofs.Ytokdleanpkkdpaa
