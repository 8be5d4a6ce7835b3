/- A press made of numbers: the plain sources beside the program's, and that it is valid; conditions: none. -/
import Derived.Test.YtnbnfadmbggfnaaCG
import Derived.Test.YtnbnfadmbggfnaaB4
set_option linter.unusedSimpArgs false
set_option linter.unusedVariables false
namespace Go.Rl
open Go.Fh
def idM (l : List Nat) (i : Nat) (id : Int) : Nat → Int
  | 0 => id
  | k + 1 => idM l i id k + (1 + dig l (i + 5 * k) 5)
def reelM (l : List Nat) (i : Nat) (id : Int) (k : Nat) : ReelD :=
  ⟨idM l i id (k + 1), 700 + dig l (i + 5 * k + 1) 3, 800 * dig l (i + 5 * k + 2) 256 + dig l (i + 5 * k + 3) 256, min (800 * dig l (i + 5 * k + 2) 256 + dig l (i + 5 * k + 3) 256) (10 * dig l (i + 5 * k + 4) 100)⟩
def rlsM (l : List Nat) (i : Nat) (id : Int) : Nat → List ReelD
  | 0 => []
  | k + 1 => rlsM l i id k ++ [reelM l i id k]
def nrM (l : List Nat) (i : Nat) : Nat := 1 + (dig l (i + 3) 6).toNat
def webM (l : List Nat) (i : Nat) (id : Int) : WebD := ⟨rlsM l (i + 4) id (nrM l i), 13 * dig l i 200, 3 * dig l (i + 1) 150, 4 * dig l (i + 2) 150⟩
/-- where the numbers and the Ids stand before a web -/
def webI (l : List Nat) : Nat → Nat × Int
  | 0 => (3, 0)
  | k + 1 => ((webI l k).1 + 4 + 5 * nrM l (webI l k).1, idM l ((webI l k).1 + 4) (webI l k).2 (nrM l (webI l k).1))
def wbsM (l : List Nat) : Nat → List WebD
  | 0 => []
  | k + 1 => wbsM l k ++ [webM l (webI l k).1 (webI l k).2]
def nwM (l : List Nat) : Nat := 1 + (dig l 2 3).toNat
def madeP (l : List Nat) : PrsD := ⟨300 + 5 * dig l 0 240, dig l 1 4, wbsM l (nwM l)⟩
theorem rlsM_len (l : List Nat) (i : Nat) (id : Int) (k : Nat) : (rlsM l i id k).length = k := by
  induction k with
  | zero => rfl
  | succ k ih => simp [rlsM, ih]
theorem wbsM_len (l : List Nat) (k : Nat) : (wbsM l k).length = k := by
  induction k with
  | zero => rfl
  | succ k ih => simp [wbsM, ih]
theorem nrM_bd (l : List Nat) (i : Nat) : 1 ≤ nrM l i ∧ nrM l i ≤ 6 := by
  have := dig_bd l (i + 3) (n := 6) (by decide)
  unfold nrM; omega
theorem nwM_bd (l : List Nat) : 1 ≤ nwM l ∧ nwM l ≤ 3 := by
  have := dig_bd l 2 (n := 3) (by decide)
  unfold nwM; omega
theorem idM_bd (l : List Nat) (i : Nat) (id : Int) (k : Nat) : id + k ≤ idM l i id k ∧ idM l i id k ≤ id + 5 * k := by
  induction k with
  | zero => simp [idM]
  | succ k ih =>
    have := dig_bd l (i + 5 * k) (n := 5) (by decide)
    unfold idM; omega
theorem webI_bd (l : List Nat) (k : Nat) : (webI l k).1 ≤ 3 + 34 * k ∧ 0 ≤ (webI l k).2 ∧ (webI l k).2 ≤ 30 * k := by
  induction k with
  | zero => simp [webI]
  | succ k ih =>
    have h1 := nrM_bd l (webI l k).1
    have h2 := idM_bd l ((webI l k).1 + 4) (webI l k).2 (nrM l (webI l k).1)
    unfold webI
    dsimp only
    omega
theorem rlsM_ids (l : List Nat) (i : Nat) (id : Int) (k : Nat) : ((rlsM l i id k).map (·.id)).Pairwise (· < ·) ∧ ∀ x ∈ (rlsM l i id k).map (·.id), id < x ∧ x ≤ idM l i id k := by
  induction k with
  | zero => simp [rlsM]
  | succ k ih =>
    have hd := dig_bd l (i + 5 * k) (n := 5) (by decide)
    have he : idM l i id (k + 1) = idM l i id k + (1 + dig l (i + 5 * k) 5) := rfl
    have hb := idM_bd l i id k
    rw [rlsM, List.map_append]
    refine ⟨List.pairwise_append.2 ⟨ih.1, by simp, fun a ha b hb => ?_⟩, fun x hx => ?_⟩
    · simp at hb; subst hb
      have := ih.2 a ha
      show a < idM l i id (k + 1)
      omega
    · rcases List.mem_append.1 hx with hx | hx
      · have := ih.2 x hx; omega
      · simp at hx; subst hx
        show id < idM l i id (k + 1) ∧ idM l i id (k + 1) ≤ _
        omega
theorem wbsM_ids (l : List Nat) (k : Nat) : (((wbsM l k).flatMap (·.reels)).map (·.id)).Pairwise (· < ·) ∧ ∀ x ∈ ((wbsM l k).flatMap (·.reels)).map (·.id), x ≤ (webI l k).2 := by
  induction k with
  | zero => simp [wbsM]
  | succ k ih =>
    have h1 := rlsM_ids l ((webI l k).1 + 4) (webI l k).2 (nrM l (webI l k).1)
    have h2 := idM_bd l ((webI l k).1 + 4) (webI l k).2 (nrM l (webI l k).1)
    have e : ((wbsM l (k + 1)).flatMap (·.reels)).map (·.id) = ((wbsM l k).flatMap (·.reels)).map (·.id) ++ (rlsM l ((webI l k).1 + 4) (webI l k).2 (nrM l (webI l k).1)).map (·.id) := by
      rw [wbsM, List.flatMap_append, List.map_append]
      simp [webM]
    rw [e]
    have e2 : (webI l (k + 1)).2 = idM l ((webI l k).1 + 4) (webI l k).2 (nrM l (webI l k).1) := rfl
    rw [e2]
    refine ⟨List.pairwise_append.2 ⟨ih.1, h1.1, fun a ha b hb => ?_⟩, fun x hx => ?_⟩
    · have := ih.2 a ha; have := h1.2 b hb; omega
    · rcases List.mem_append.1 hx with hx | hx
      · have := ih.2 x hx; omega
      · exact (h1.2 x hx).2
theorem reelM_right (l : List Nat) (i : Nat) (id : Int) (k : Nat) (h0 : 0 ≤ id) (h1 : id + 5 * k ≤ 900000) : rightB (reelM l i id k) = true := by
  have d0 := idM_bd l i id (k + 1)
  have d1 := dig_bd l (i + 5 * k + 1) (n := 3) (by decide)
  have d2 := dig_bd l (i + 5 * k + 2) (n := 256) (by decide)
  have d3 := dig_bd l (i + 5 * k + 3) (n := 256) (by decide)
  have d4 := dig_bd l (i + 5 * k + 4) (n := 100) (by decide)
  unfold rightB rl1 rl2 rl3 reelM
  simp only [Bool.and_eq_true]
  exact ⟨inB_iff.2 (by omega), inB_iff.2 (by omega), inB_iff.2 (by omega), inB_iff.2 (by omega)⟩
theorem rlsM_right (l : List Nat) (i : Nat) (id : Int) (k : Nat) (h0 : 0 ≤ id) (h1 : id + 5 * k ≤ 900000) : ∀ r ∈ rlsM l i id k, rightB r = true := by
  induction k with
  | zero => simp [rlsM]
  | succ k ih =>
    intro r hr
    rw [rlsM] at hr
    rcases List.mem_append.1 hr with hr | hr
    · exact ih (by omega) r hr
    · simp at hr; subst hr; exact reelM_right l i id k h0 (by omega)
/-- what a valid press keeps -/
structure FitP (p : PrsD) : Prop where
  n : 1 ≤ p.webs.length ∧ p.webs.length ≤ 6
  c : 300 ≤ p.cut ∧ p.cut ≤ 1500
  m : 0 ≤ p.margin ∧ p.margin ≤ 20
  w : ∀ v ∈ p.webs, v.reels.length ≤ 20 ∧ (0 ≤ v.off ∧ v.off ≤ 200000) ∧ (0 ≤ v.bef ∧ v.bef ≤ 5000) ∧ (0 ≤ v.aft ∧ v.aft ≤ 5000) ∧ ∀ r ∈ v.reels, rightB r = true
  ids : ((p.webs.flatMap (·.reels)).map (·.id)).Pairwise (· < ·)
theorem firstErr_all {f : Nat → Int} {n : Nat} (h : ∀ i, i < n → f i = 0) : firstErr f n = 0 := by
  induction n with
  | zero => rfl
  | succ n ih => exact firstErr_go (ih fun i hi => h i (by omega)) (h n (by omega))
theorem fit_err {p : PrsD} (h : FitP p) : errP p = 0 := by
  unfold errP
  have e1 : inB p.webs.length 1 6 = true := inB_iff.2 (by have := h.n; omega)
  have e2 : p.webs.any (fun v => decide (20 < v.reels.length)) = false := by
    rw [List.any_eq_false]
    intro v hv
    have := (h.w v hv).1
    simp; omega
  have e3 : inB p.cut 300 1500 = true := inB_iff.2 h.c
  have e4 : inB p.margin 0 20 = true := inB_iff.2 h.m
  rw [e1, e2, e3, e4]
  simp only [Bool.not_true, Bool.false_or, Bool.false_eq_true, if_false, Bool.or_false]
  refine firstErr_all fun k hk => ?_
  rw [errWb_at hk]
  obtain ⟨h1, h2, h3, h4, h5⟩ := h.w p.webs[k] (List.getElem_mem hk)
  unfold errV
  rw [inB_iff.2 h2, inB_iff.2 h3, inB_iff.2 h4]
  simp only [Bool.not_true, Bool.false_or, Bool.false_eq_true, if_false, Bool.or_false]
  unfold erW
  refine firstErr_all fun j hj => ?_
  have hnot : ¬ (p.webs[k].reels[j].id ∈ idsN p k ++ (p.webs[k].reels.take j).map (·.id)) := by
    have hall := h.ids
    have hsplit : p.webs = p.webs.take k ++ p.webs[k] :: p.webs.drop (k + 1) := by
      rw [← List.drop_eq_getElem_cons hk, List.take_append_drop]
    have e : (p.webs.flatMap (·.reels)).map (·.id) = idsN p k ++ (p.webs[k].reels.map (·.id) ++ ((p.webs.drop (k + 1)).flatMap (·.reels)).map (·.id)) := by
      conv => lhs; rw [hsplit]
      rw [List.flatMap_append, List.flatMap_cons, List.map_append, List.map_append]; rfl
    rw [e, List.pairwise_append] at hall
    obtain ⟨-, h6, h7⟩ := hall
    rw [List.pairwise_append] at h6
    intro hm
    have hin : p.webs[k].reels[j].id ∈ p.webs[k].reels.map (·.id) := List.mem_map.2 ⟨_, List.getElem_mem hj, rfl⟩
    rcases List.mem_append.1 hm with hm | hm
    · have := h7 _ hm _ (List.mem_append.2 (.inl hin)); omega
    · obtain ⟨r, hr, he⟩ := List.mem_map.1 hm
      obtain ⟨q, hq, rfl⟩ := List.getElem_of_mem hr
      rw [List.getElem_take] at he
      have hqj : q < j := by simp at hq; omega
      have := List.pairwise_iff_getElem.1 h6.1 q j (by simp; omega) (by simpa using hj) hqj
      simp at this
      omega
  rw [errA_at hj rfl rfl rfl, h5 _ (List.getElem_mem hj)]
  rw [if_neg (by simp), if_neg (by simpa using hnot)]
/-- how great the numbers of a made press are -/
theorem made_w (l : List Nat) (k : Nat) (hk : k ≤ 3) : ∀ v ∈ wbsM l k, v.reels.length ≤ 6 ∧ (0 ≤ v.off ∧ v.off ≤ 2587) ∧ (0 ≤ v.bef ∧ v.bef ≤ 447) ∧ (0 ≤ v.aft ∧ v.aft ≤ 596) ∧ ∀ r ∈ v.reels, rightB r = true := by
  induction k with
  | zero => simp [wbsM]
  | succ k ih =>
    intro v hv
    rw [wbsM] at hv
    rcases List.mem_append.1 hv with hv | hv
    · exact ih (by omega) v hv
    · simp at hv; subst hv
      have h1 := webI_bd l k
      have h2 := nrM_bd l (webI l k).1
      have d0 := dig_bd l (webI l k).1 (n := 200) (by decide)
      have d1 := dig_bd l ((webI l k).1 + 1) (n := 150) (by decide)
      have d2 := dig_bd l ((webI l k).1 + 2) (n := 150) (by decide)
      refine ⟨?_, ?_, ?_, ?_, ?_⟩
      · show (rlsM _ _ _ _).length ≤ 6; rw [rlsM_len]; omega
      · show 0 ≤ 13 * dig _ _ _ ∧ 13 * dig _ _ _ ≤ 2587; omega
      · show 0 ≤ 3 * dig _ _ _ ∧ 3 * dig _ _ _ ≤ 447; omega
      · show 0 ≤ 4 * dig _ _ _ ∧ 4 * dig _ _ _ ≤ 596; omega
      · exact rlsM_right l _ _ _ h1.2.1 (by omega)
theorem made_fit (l : List Nat) : FitP (madeP l) := by
  have hn := nwM_bd l
  have d0 := dig_bd l 0 (n := 240) (by decide)
  have d1 := dig_bd l 1 (n := 4) (by decide)
  refine ⟨?_, ?_, ?_, fun v hv => ?_, (wbsM_ids l (nwM l)).1⟩
  · show 1 ≤ (wbsM l _).length ∧ (wbsM l _).length ≤ 6; rw [wbsM_len]; omega
  · show 300 ≤ 300 + 5 * dig l 0 240 ∧ 300 + 5 * dig l 0 240 ≤ 1500; omega
  · show 0 ≤ dig l 1 4 ∧ dig l 1 4 ≤ 20; omega
  · obtain ⟨h1, h2, h3, h4, h5⟩ := made_w l (nwM l) hn.2 v hv
    exact ⟨by omega, by omega, by omega, by omega, h5⟩
theorem made_err (l : List Nat) : errP (madeP l) = 0 := fit_err (made_fit l)
end Go.Rl
