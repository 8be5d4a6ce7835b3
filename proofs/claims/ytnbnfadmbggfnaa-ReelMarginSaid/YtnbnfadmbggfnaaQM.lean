/- More margin, splices that spoil more: the plain law of ReelMargin; conditions: none. -/
import Derived.Test.YtnbnfadmbggfnaaQR
set_option linter.unusedSimpArgs false
set_option linter.unusedVariables false
namespace Go.Rl
open Go.Fh
def moreW (bb aa : Int) (v : WebD) : WebD := ⟨v.reels, v.off, v.bef + bb, v.aft + aa⟩
/-- the press with more margin, whose splices spoil more -/
def moreP (p : PrsD) (mg bb aa : Int) : PrsD := ⟨p.cut, p.margin + mg, p.webs.map (moreW bb aa)⟩
section
variable {l : List Nat} {mg bb aa : Int}
theorem more_fit (hm : 0 ≤ mg) (hm2 : mg ≤ 9) (hb : 0 ≤ bb) (hb2 : bb ≤ 255) (ha : 0 ≤ aa) (ha2 : aa ≤ 255) : FitP (moreP (madeP l) mg bb aa) := by
  have h := made_fit l
  have hn := nwM_bd l
  have d1 := dig_bd l 1 (n := 4) (by decide)
  refine ⟨?_, h.c, ?_, fun v hv => ?_, ?_⟩
  · show 1 ≤ ((madeP l).webs.map _).length ∧ ((madeP l).webs.map _).length ≤ 6
    rw [List.length_map]; exact h.n
  · show 0 ≤ dig l 1 4 + mg ∧ dig l 1 4 + mg ≤ 20; omega
  · obtain ⟨u, hu, rfl⟩ := List.mem_map.1 hv
    obtain ⟨h1, h2, h3, h4, h5⟩ := made_w l (nwM l) hn.2 u hu
    refine ⟨?_, ?_, ?_, ?_, h5⟩
    · show u.reels.length ≤ 20; omega
    · show 0 ≤ u.off ∧ u.off ≤ 200000; omega
    · show 0 ≤ u.bef + bb ∧ u.bef + bb ≤ 5000; omega
    · show 0 ≤ u.aft + aa ∧ u.aft + aa ≤ 5000; omega
  · have e : ((moreP (madeP l) mg bb aa).webs.flatMap (·.reels)) = (madeP l).webs.flatMap (·.reels) := by
      show ((madeP l).webs.map (moreW bb aa)).flatMap (·.reels) = _
      rw [List.flatMap_map]; rfl
    rw [e]; exact h.ids
end
section
variable {p : PrsD} {mg bb aa : Int}
theorem more_rch : rchP (moreP p mg bb aa) = rchP p := by
  have h : ∀ k, rchK (moreP p mg bb aa) k = rchK p k := by
    intro k
    induction k with
    | zero => rfl
    | succ k ih =>
      show min (rchK (moreP p mg bb aa) k) ((((moreP p mg bb aa).webs[k]?).map (webN p.cut)).getD 1000000) = min (rchK p k) (((p.webs[k]?).map (webN p.cut)).getD 1000000)
      rw [ih]
      congr 1
      show ((((p.webs.map (moreW bb aa))[k]?).map (webN p.cut)).getD 1000000) = _
      rw [List.getElem?_map, Option.map_map]
      rfl
  unfold rchP
  rw [h]
  show rchK p (p.webs.map _).length = _
  rw [List.length_map]
theorem more_near (hc : 0 < p.cut) (hm : 0 ≤ mg) (hb : 0 ≤ bb) (ha : 0 ≤ aa) {v : WebD} (hv : 0 ≤ v.bef ∧ 0 ≤ v.aft) {x k : Int} (h : nearS p v x k) : nearS (moreP p mg bb aa) (moreW bb aa v) x k := by
  obtain ⟨h1, h2, h3⟩ := h
  have e1 : (x - (v.bef + bb) - v.off) / p.cut ≤ (x - v.bef - v.off) / p.cut := Int.ediv_le_ediv hc (by omega)
  have e2 : (x + v.aft - 1 - v.off) / p.cut ≤ (x + (v.aft + aa) - 1 - v.off) / p.cut := Int.ediv_le_ediv hc (by omega)
  refine ⟨?_, ?_, ?_⟩
  · show v.bef + bb + (v.aft + aa) ≠ 0; omega
  · unfold loS at *
    show max ((x - (v.bef + bb) - v.off) / p.cut - (p.margin + mg)) 0 ≤ k
    omega
  · show k ≤ (x + (v.aft + aa) - 1 - v.off) / p.cut + (p.margin + mg)
    omega
theorem more_cov (hp : FitP p) (hm : 0 ≤ mg) (hb : 0 ≤ bb) (ha : 0 ≤ aa) {n k : Int} (h : cvS (thrP p n) k) : cvS (thrP (moreP p mg bb aa) n) k := by
  rw [thr_cov] at h ⊢
  obtain ⟨⟨v, hv, x, hx, h1⟩, h2⟩ := h
  have hw := hp.w v hv
  exact ⟨⟨moreW bb aa v, List.mem_map.2 ⟨v, hv, rfl⟩, x, hx, more_near (by have := hp.c; omega) hm hb ha ⟨hw.2.2.1.1, hw.2.2.2.1.1⟩ h1⟩, h2⟩
theorem more_in (hp : FitP p) (hm : 0 ≤ mg) (hb : 0 ≤ bb) (ha : 0 ≤ aa) {n : Int} {s : Int × Int} (h : s ∈ thrP p n) : ∃ x ∈ thrP (moreP p mg bb aa) n, x.1 ≤ s.1 ∧ s.2 ≤ x.2 := by
  have hj := thr_join (moreP p mg bb aa) n
  have hs := thr_bd h
  exact apart_one hj.gap hj.le hs.2.1 fun k h1 h2 => more_cov hp hm hb ha ⟨s, h, h1, h2⟩
theorem more_any (hp : FitP p) (hm : 0 ≤ mg) (hb : 0 ≤ bb) (ha : 0 ≤ aa) {n : Int} {s : Int × Int} (h : s ∈ thrP p n) : (thrP (moreP p mg bb aa) n).any (fun x => decide (x.1 ≤ s.1 ∧ s.2 ≤ x.2)) = true := by
  obtain ⟨x, hx, h1⟩ := more_in hp hm hb ha h
  exact List.any_eq_true.2 ⟨x, hx, by simpa using h1⟩
theorem more_run (hp : FitP p) (hq : FitP (moreP p mg bb aa)) (hm : 0 ≤ mg) (hb : 0 ≤ bb) (ha : 0 ≤ aa) {g : Int} (h0 : 0 ≤ g) (h1 : g ≤ rchP p) : (runP (moreP p mg bb aa) g).2 ≠ 0 ∨ ((runP p g).2 = 0 ∧ (runP p g).1 ≤ (runP (moreP p mg bb aa) g).1) := by
  have he := fit_err hp
  have hf := fit_err hq
  have hb1 := rch_bd he
  have a1 := ask_ok (most := 1000000) he h0 h1 (by omega)
  have a2 := ask_ok (most := 1000000) hf h0 (by rw [more_rch]; exact h1) (by omega)
  have hjp := thr_join p (rchP p)
  have hjq := thr_join (moreP p mg bb aa) (rchP p)
  have hle : Go.Rl.runN (thrP p (rchP p)) g ≤ Go.Rl.runN (thrP (moreP p mg bb aa) (rchP p)) g ∨ rchP p < Go.Rl.runN (thrP (moreP p mg bb aa) (rchP p)) g := by
    by_cases hc : rchP p < Go.Rl.runN (thrP (moreP p mg bb aa) (rchP p)) g
    · exact .inr hc
    · left
      obtain ⟨s1, -, s3⟩ := run_spec _ hjp.le hjp.gap g
      obtain ⟨t1, -, -⟩ := run_spec _ hjq.le hjq.gap g
      obtain ⟨y, hy⟩ : ∃ y, y = Go.Rl.runN (thrP (moreP p mg bb aa) (rchP p)) g := ⟨_, rfl⟩
      rw [← hy] at t1 hc ⊢
      by_cases hlt : y < Go.Rl.runN (thrP p (rchP p)) g
      · have h3 := s3 y hlt
        rw [← thr_clip (by omega)] at h3 t1
        have hyp := thr_join p y
        have hyq := thr_join (moreP p mg bb aa) y
        have := cnt_mono (thrP (moreP p mg bb aa) y) (thrP p y) hyp.le hyq.le hyp.gap hyq.gap fun s hs => more_in hp hm hb ha hs
        omega
      · omega
  unfold runP
  rw [if_neg (show ¬ askE (moreP p mg bb aa) g 1000000 ≠ 0 by simpa using a2), if_neg (show ¬ askE p g 1000000 ≠ 0 by simpa using a1), more_rch]
  by_cases hg : g = 0
  · right
    rw [if_pos hg, if_pos hg]
    exact ⟨rfl, Int.le_refl _⟩
  · rw [if_neg hg, if_neg hg]
    by_cases hc : rchP p < Go.Rl.runN (thrP (moreP p mg bb aa) (rchP p)) g
    · left; rw [if_pos hc]; decide
    · right
      rw [if_neg hc, if_neg (by omega)]
      exact ⟨rfl, by dsimp only; omega⟩
end
end Go.Rl
