/- Plain law: a subscriber with one holiday more; conditions: none. -/
import Derived.Test.YtgopdfbmddkpfaaSpec8
import Derived.Test.YtgopdfbmddkpfaaSpec9
namespace Go.Ag
def joinH (lo hi : Int) : List (Int × Int) → List (Int × Int)
  | [] => [(lo, hi)]
  | h :: _ => if hi + 1 < h.1 then [(lo, hi), h] else if h.2 + 1 < lo then [h, (lo, hi)] else [(min lo h.1, max hi h.2)]
def awayS (s : SubD) (lo hi : Int) : SubD := ⟨s.id, s.lo, s.hi, s.days, joinH lo hi s.hol⟩
theorem badAt_intro {l : List (Int × Int)} {k : Nat} (h1 : 0 ≤ (l.getD k (0, 0)).1) (h2 : (l.getD k (0, 0)).1 ≤ (l.getD k (0, 0)).2) (h3 : (l.getD k (0, 0)).2 ≤ 20000) (h4 : 0 < k → (l.getD (k - 1) (0, 0)).2 + 1 < (l.getD k (0, 0)).1) : badAt l k = false := by
  simp only [badAt, inB]
  have a : decide (0 ≤ (l.getD k (0, 0)).1 ∧ (l.getD k (0, 0)).1 ≤ 20000) = true := by simp only [decide_eq_true_eq]; omega
  have b : decide ((l.getD k (0, 0)).1 ≤ (l.getD k (0, 0)).2 ∧ (l.getD k (0, 0)).2 ≤ 20000) = true := by simp only [decide_eq_true_eq]; omega
  rw [a, b]
  by_cases hk : 0 < k
  · have := h4 hk
    have c : decide ((l.getD k (0, 0)).1 ≤ (l.getD (k - 1) (0, 0)).2 + 1) = false := by simp only [decide_eq_false_iff_not]; omega
    rw [c]; simp
  · have c : decide (0 < k) = false := by simpa using hk
    rw [c]; simp
theorem away_ok {s : SubD} {lo hi : Int} (hs : OkS s) (h1 : s.hol.length ≤ 1) (hlo : 0 ≤ lo) (hlh : lo ≤ hi) (hhi : hi ≤ 20000) :
    OkS (awayS s lo hi) ∧ (∀ d, getsB (awayS s lo hi) d = (getsB s d && !inB d lo hi)) ∧ (awayS s lo hi).hol.length ≤ 2 := by
  obtain ⟨id, slo, shi, sd, hol⟩ := s
  obtain ⟨o1, o2, o3, o4, o5, o6⟩ := hs
  dsimp only at o1 o2 o3 o4 o5 o6 h1
  match hol, h1, o5, o6 with
  | [], _, _, _ =>
    refine ⟨⟨o1, o2, o3, o4, by simp [awayS, joinH], ?_⟩, fun d => ?_, by simp [awayS, joinH]⟩
    · intro k hk
      have hk0 : k = 0 := by simp [awayS, joinH] at hk; exact hk
      subst hk0
      exact badAt_intro (by simpa [awayS, joinH] using hlo) (by simpa [awayS, joinH] using hlh) (by simpa [awayS, joinH] using hhi) (fun h => absurd h (by omega))
    · simp [getsB, awayS, joinH, inHol, Bool.and_assoc]
  | [h], _, _, o6 =>
    obtain ⟨b1, b2, b3⟩ := badAt_false (o6 0 (by simp))
    simp only [List.getD_cons_zero] at b1 b2 b3
    by_cases c1 : hi + 1 < h.1
    · have e : joinH lo hi [h] = [(lo, hi), h] := by simp [joinH, c1]
      unfold awayS
      dsimp only
      rw [e]
      refine ⟨⟨o1, o2, o3, o4, by simp, ?_⟩, fun d => ?_, by simp⟩
      · intro k hk
        have hk2 : k < 2 := by simpa using hk
        match k, hk2 with
        | 0, _ => exact badAt_intro (by simpa using hlo) (by simpa using hlh) (by simpa using hhi) (fun h => absurd h (by omega))
        | 1, _ => exact badAt_intro (by simp; omega) (by simp; omega) (by simp; omega) (fun _ => by simp; omega)
      · simp only [getsB, List.any_cons, List.any_nil, Bool.or_false]
        cases inB d slo shi <;> cases bitB sd d <;> simp [inHol]
        cases inB d lo hi <;> cases inB d h.1 h.2 <;> rfl
    · by_cases c2 : h.2 + 1 < lo
      · have e : joinH lo hi [h] = [h, (lo, hi)] := by simp [joinH, c1, c2]
        unfold awayS
        dsimp only
        rw [e]
        refine ⟨⟨o1, o2, o3, o4, by simp, ?_⟩, fun d => ?_, by simp⟩
        · intro k hk
          have hk2 : k < 2 := by simpa using hk
          match k, hk2 with
          | 0, _ => exact badAt_intro (by simp; omega) (by simp; omega) (by simp; omega) (fun h => absurd h (by omega))
          | 1, _ => exact badAt_intro (by simpa using hlo) (by simpa using hlh) (by simpa using hhi) (fun _ => by simp; omega)
        · simp only [getsB, List.any_cons, List.any_nil, Bool.or_false]
          cases inB d slo shi <;> cases bitB sd d <;> simp [inHol]
      · have e : joinH lo hi [h] = [(min lo h.1, max hi h.2)] := by simp [joinH, c1, c2]
        unfold awayS
        dsimp only
        rw [e]
        refine ⟨⟨o1, o2, o3, o4, by simp, ?_⟩, fun d => ?_, by simp⟩
        · intro k hk
          have hk0 : k = 0 := by simpa using hk
          subst hk0
          exact badAt_intro (by simp only [List.getD_cons_zero]; omega) (by simp only [List.getD_cons_zero]; omega) (by simp only [List.getD_cons_zero]; omega) (fun h => absurd h (by omega))
        · have hu : inB d (min lo h.1) (max hi h.2) = (inB d h.1 h.2 || inB d lo hi) := by
            rw [Bool.eq_iff_iff]
            simp only [Bool.or_eq_true, inB_iff]
            omega
          simp only [getsB, List.any_cons, List.any_nil, Bool.or_false, inHol, hu]
          cases inB d slo shi <;> cases bitB sd d <;> simp
end Go.Ag
