/- Contract of the reference's pairs; conditions: lengths that a title has. -/
import Derived.Test.YtokdleanpkkdpaaA2
set_option linter.unusedSimpArgs false
set_option linter.unusedVariables false
namespace Go.Ed
def tkL (l : List Int) (k : Nat) : List Int := (l.take k).flatMap fun p => [p, p + 1]
theorem tkL_succ {l : List Int} {k : Nat} (hk : k < l.length) : tkL l (k + 1) = tkL l k ++ [l[k], l[k] + 1] := by
  unfold tkL
  rw [List.take_succ_eq_append_getElem hk, List.flatMap_append]
  simp
theorem tkL_len {l : List Int} {k : Nat} (hk : k ≤ l.length) : (tkL l k).length = 2 * k := by
  induction k with
  | zero => simp [tkL]
  | succ k ih => rw [tkL_succ (by omega), List.length_append, ih (by omega)]; simp; omega
theorem tkL_hit {l : List Int} {k : Nat} {pn : Nat} {q : Int} (hq : q ∈ tkL l k) (h : q = (pn : Int) ∨ q = (pn : Int) + 1) : takenN l k pn = true ∨ takenN l k (pn + 1) = true := by
  unfold tkL at hq
  obtain ⟨a, ha, hq⟩ := List.mem_flatMap.1 hq
  unfold takenN
  simp only [List.any_eq_true, Bool.or_eq_true, beq_iff_eq]
  simp at hq
  rcases hq with rfl | rfl
  · rcases h with h | h
    · left; exact ⟨_, ha, .inl h⟩
    · right; exact ⟨_, ha, .inl (by omega)⟩
  · rcases h with h | h
    · left; exact ⟨_, ha, .inr h⟩
    · right; exact ⟨_, ha, .inr (by omega)⟩
theorem tkL_miss {l : List Int} {k pn : Nat} (h : ∀ q ∈ tkL l k, q ≠ (pn : Int) ∧ q ≠ (pn : Int) + 1) : takenN l k pn = false ∧ takenN l k (pn + 1) = false := by
  unfold takenN
  simp only [List.any_eq_false, Bool.or_eq_true, beq_iff_eq]
  have key : ∀ a ∈ l.take k, (a ≠ (pn : Int) ∧ a ≠ (pn : Int) + 1) ∧ (a + 1 ≠ (pn : Int) ∧ a + 1 ≠ (pn : Int) + 1) := fun a ha =>
    ⟨h a (List.mem_flatMap.2 ⟨a, ha, by simp⟩), h (a + 1) (List.mem_flatMap.2 ⟨a, ha, by simp⟩)⟩
  constructor
  · intro a ha hh
    have := key a ha
    omega
  · intro a ha hh
    have := key a ha
    omega
end Go.Ed
namespace Go.Proofs.Ytokdleanpkkdpaa
open Go.RowKit Go.Fh Go.Ed

theorem flatMap_encIntE (l : List Int) : l.flatMap encInt = l.map (Value.int .i64) := by
  induction l with
  | nil => rfl
  | cons x l ih => rw [List.flatMap_cons, ih]; rfl
theorem sl_ownIntE {w : World} {base c : Nat} {A : Option Addr} {l : List Int} (h : w.ownsRow base 3 1 (.slice A l.length c) l.length (l.map (Value.int .i64))) : Sl encInt 1 w w.heap.size A l :=
  Sl.of_own (fun _ => rfl) (by rw [flatMap_encIntE]; exact h)

set_option maxRecDepth 20000 in
set_option maxHeartbeats 4000000 in
theorem rpairs_any (t : TitD) (x : TA) (w : World) (hc : t.colours.length ≤ 1000) (hp : t.pairs.length ≤ 1000000000) (hA : Sl encInt 1 w w.heap.size x.a t.colours) (hB : Sl encInt 1 w w.heap.size x.b t.pairs) :
    Calls Try.prog 95 #[.agg (titV t x)] w fun e w' => e = .returned (.bool (pairedB t)) ∧ Below w.heap.size w w' := by
  obtain ⟨i0, hi0, hz0, hz1, hz2⟩ := info_parts infoInt
  obtain ⟨w1, hw1⟩ : ∃ W, W = w.alloc (.cells (titV t x) 88) := ⟨_, rfl⟩
  have hb1 : Below w.heap.size w w1 := by rw [hw1]; exact (Below.refl _ _).alloc (Nat.le_refl _) _
  have kT : Blk w1 w.heap.size 88 (titV t x) := by rw [hw1]; exact Blk.new _ _ _
  obtain ⟨gT, hgT⟩ : ∃ g, g = w.heap.size := ⟨_, rfl⟩
  rw [← hgT] at kT
  have HI0 := Lib.hid hi0
  have HA := Lib.hid hA
  have HB := Lib.hid hB
  have HB1 := Lib.hid hb1
  have HW1 := Lib.hid hw1
  have HGT := Lib.hid hgT
  have KT := Lib.hid kT
  have hgl : gT < w1.heap.size := kT.lt
  clear hi0 hA hB hb1 hw1 hgT kT
  unfold titV at *
  go_enter Try.func95, Try.ntmps95
  go_upto_region 1 with fail
  rw [← HW1.out, ← HGT.out]
  go_wp2_with fail
  go_loopw [3, 4] (fun v i wr => ∃ k : Nat, k ≤ t.pairs.length ∧ i = .int .i64 k ∧ (∃ A' c', v = .slice A' (2 * k) c') ∧ Hid (∀ j, j < k → pairAt t.colours t.pairs j = true) ∧ Hid (wr.ownsRow w1.heap.size 3 1 v (2 * k) ((tkL t.pairs k).map (Value.int .i64))) ∧ Below w1.heap.size w1 wr) (fun _ i _ => t.pairs.length - (intOf i).toNat)
  case atStart => exact ⟨0, Nat.zero_le _, rfl, ⟨none, 0, rfl⟩, fun j hj => absurd hj (by omega), World.ownsRow_nil _ _ _ _, Below.refl _ _⟩
  case round =>
    obtain ⟨k, hk, rfl, ⟨A', c', rfl⟩, HP, HO, hB⟩ := hrel
    have hBw := HB1.out.trans (hB.mono HB1.out.size)
    have HBR := Lib.hid hBw
    have kr := KT.out.below hB hgl
    have r0 := kr.cell 0
    have r1 := kr.cell 1
    simp at r0 r1
    by_cases hlt : k < t.pairs.length
    · obtain ⟨pb, po, hpa, hpb, c0⟩ := (HB.out.below hBw).at1 hlt
      have hpt := pairAt_taken (c := t.colours) hlt
      have hstop := fun (h : pairAt t.colours t.pairs k = false) => pairedB_stop hlt h
      have f1 := IntWalk.i64_in ((t.colours.length : Int) - 2) (by omega)
      rw [hpa]
      rw [hpa] at r1
      obtain ⟨p, hp'⟩ : ∃ p, p = t.pairs[k] := ⟨_, rfl⟩
      rw [← hp'] at c0 hpt
      have HPT := Lib.hid hpt
      have HST := Lib.hid hstop
      have HPV := Lib.hid hp'
      clear hpt hstop hp' kr hBw
      by_cases hp0 : p < 0
      · have t1 : decide (p < 0) = true := by simpa using hp0
        have HF := Lib.hid (HST.out (by rw [HPT.out, show inB p 0 ((t.colours.length : Int) - 2) = false by simp [inB]; omega]; rfl))
        clear hp0
        go_wp2_with fail
        go_quiet (fail)
        go_wp2_with fail
        go_ret
        exact ⟨ret_bool HF.out.symm, below_drewN HBR.out _⟩
      · by_cases hp1 : (t.colours.length : Int) - 2 < p
        · have t1 : decide (p < 0) = false := by simpa using hp0
          have t2 : decide ((t.colours.length : Int) - 2 < p) = true := by simpa using hp1
          have HF := Lib.hid (HST.out (by rw [HPT.out, show inB p 0 ((t.colours.length : Int) - 2) = false by simp [inB]; omega]; rfl))
          clear hp0 hp1
          go_wp2_with fail
          go_quiet (fail)
          go_wp2_with fail
          go_ret
          exact ⟨ret_bool HF.out.symm, below_drewN HBR.out _⟩
        · have t1 : decide (p < 0) = false := by simpa using hp0
          have t2 : decide ((t.colours.length : Int) - 2 < p) = false := by simpa using hp1
          have hin : inB p 0 ((t.colours.length : Int) - 2) = true := inB_iff.2 ⟨by omega, by omega⟩
          obtain ⟨pn, rfl⟩ : ∃ pn : Nat, p = (pn : Int) := ⟨p.toNat, by omega⟩
          have hq1 : pn < t.colours.length := by omega
          have hq2 : pn + 1 < t.colours.length := by omega
          have f2 := IntWalk.i64_in ((pn : Int) + 1) (by omega)
          have e1 : ((pn : Int) + 1).toNat = pn + 1 := by omega
          obtain ⟨ab, ao, hxa, hab, g1⟩ := (HA.out.below HBR.out).at1 hq1
          obtain ⟨ab', ao', hxa', hab', g2⟩ := (HA.out.below HBR.out).at1 hq2
          obtain ⟨rfl, rfl⟩ : ab = ab' ∧ ao = ao' := by rw [hxa] at hxa'; simpa using hxa'
          rw [hxa] at r0 ⊢
          have hgd1 : t.colours.getD pn 0 = t.colours[pn] := by simp [hq1]
          have hgd2 : t.colours.getD (pn + 1) 0 = t.colours[pn + 1] := by simp [hq2]
          have q1 := HPT.out
          rw [hin] at q1
          simp only [Int.toNat_natCast, Bool.true_and] at q1
          rw [hgd1, hgd2] at q1
          obtain ⟨cA, hcA⟩ : ∃ c, c = t.colours[pn] := ⟨_, rfl⟩
          obtain ⟨cB, hcB⟩ : ∃ c, c = t.colours[pn + 1] := ⟨_, rfl⟩
          rw [← hcA] at g1 q1
          rw [← hcB] at g2 q1
          have Q1 := Lib.hid q1
          have HXA := Lib.hid hxa
          clear hcA hcB hxa hxa' hgd1 hgd2 q1 hin hp0 hp1
          by_cases he : cA = cB
          · have hne : (cA != cB) = false := by simp [he]
            have hpk : takenN t.pairs k pn = false ∧ takenN t.pairs k (pn + 1) = false → pairAt t.colours t.pairs k = true := fun h => by rw [Q1.out, he, h.1, h.2]; simp
            have hpf : takenN t.pairs k pn = true ∨ takenN t.pairs k (pn + 1) = true → pairAt t.colours t.pairs k = false := fun h => by
              rw [Q1.out]
              rcases h with h | h <;> rw [h] <;> simp
            have HPK := Lib.hid hpk
            have HPF := Lib.hid hpf
            clear he hpk hpf
            go_wp2_with fail
            go_quiet (fail)
            go_wp2_with fail
            have hS : Sl encInt 1 wr wr.heap.size A' (tkL t.pairs k) := sl_ownIntE (base := w1.heap.size) (c := c') (by rw [tkL_len hk]; exact HO.out)
            obtain ⟨wq, hwq⟩ : ∃ W, W = wr.drewN nq := ⟨_, rfl⟩
            have hrq : Below wr.heap.size wr wq := by rw [hwq]; exact below_drewN (Below.refl _ _) _
            have HSQ := Lib.hid ((hS.below hrq).mono hrq.size)
            have HRQ := Lib.hid hrq
            have HBQ := Lib.hid (hB.trans (hrq.mono hB.size))
            have hoq : wq.ownsRow w1.heap.size 3 1 (.slice A' (2 * k) c') (2 * k) ((tkL t.pairs k).map (Value.int .i64)) := by rw [hwq]; exact HO.out
            have HOQ := Lib.hid hoq
            rw [← hwq]
            have hkl := tkL_len hk
            clear hS hwq hrq hoq g1 g2 c0 r0 r1 hne t1 t2 f1
            go_loopw [6] (fun i wr => ∃ m : Nat, m ≤ 2 * k ∧ i = .int .i64 m ∧ Hid (∀ j (hj : j < (tkL t.pairs k).length), j < m → (tkL t.pairs k)[j] ≠ (pn : Int) ∧ (tkL t.pairs k)[j] ≠ (pn : Int) + 1) ∧ Hid (wr.ownsRow w1.heap.size 3 1 (.slice A' (2 * k) c') (2 * k) ((tkL t.pairs k).map (Value.int .i64))) ∧ Hid (Sl encInt 1 wr wr.heap.size A' (tkL t.pairs k)) ∧ Below w1.heap.size w1 wr) (fun i _ => 2 * k - (intOf i).toNat)
            case atStart => exact ⟨0, Nat.zero_le _, rfl, fun j _ hj => absurd hj (by omega), HOQ.out, HSQ.out, HBQ.out⟩
            case round =>
              clear hB
              obtain ⟨m, hm, rfl, HM, HO2, HS2, hB⟩ := hrel
              by_cases hmt : m < 2 * k
              · have hml : m < (tkL t.pairs k).length := by rw [hkl]; exact hmt
                obtain ⟨qb, qo, rfl, hqb, d0⟩ := HS2.out.at1 hml
                have hmem : (tkL t.pairs k)[m] ∈ tkL t.pairs k := List.getElem_mem hml
                obtain ⟨z, hz⟩ : ∃ z, z = (tkL t.pairs k)[m] := ⟨_, rfl⟩
                rw [← hz] at d0 hmem
                have hhit := fun h => HPF.out (tkL_hit (pn := pn) hmem h)
                have HH := Lib.hid hhit
                have HZ := Lib.hid hz
                clear hmem hz hhit
                by_cases h1 : z = (pn : Int)
                · have t3 : (z == (pn : Int)) = true := by simpa using h1
                  have HF := Lib.hid (HST.out (HH.out (.inl h1)))
                  clear h1
                  go_wp2_with fail
                  go_ret
                  exact ⟨ret_bool HF.out.symm, HB1.out.trans (hB.mono HB1.out.size)⟩
                · by_cases h2 : z = (pn : Int) + 1
                  · have t3 : (z == (pn : Int)) = false := by simpa using h1
                    have t4 : (z == (pn : Int) + 1) = true := by simpa using h2
                    have HF := Lib.hid (HST.out (HH.out (.inr h2)))
                    clear h1 h2
                    go_wp2_with fail
                    go_ret
                    exact ⟨ret_bool HF.out.symm, HB1.out.trans (hB.mono HB1.out.size)⟩
                  · have t3 : (z == (pn : Int)) = false := by simpa using h1
                    have t4 : (z == (pn : Int) + 1) = false := by simpa using h2
                    have HNE := Lib.hid (And.intro h1 h2)
                    clear h1 h2
                    go_wp2_with fail
                    go_roundw
                    case rel =>
                      refine ⟨m + 1, by omega, by go_num, ?_, HO2.out, HS2.out, hB⟩
                      intro j hj hjm
                      by_cases e : j = m
                      · subst e; rw [← HZ.out]; exact HNE.out
                      · exact HM.out j hj (by omega)
                    case measure => simp [intOf]; omega
              · obtain rfl : m = 2 * k := by omega
                have hmiss : ∀ q ∈ tkL t.pairs k, q ≠ (pn : Int) ∧ q ≠ (pn : Int) + 1 := by
                  intro q hq
                  obtain ⟨j, hj, rfl⟩ := List.mem_iff_getElem.1 hq
                  exact HM.out j hj (by omega)
                have hpk := HPK.out (tkL_miss hmiss)
                have HPK2 := Lib.hid hpk
                have hown4 := HO2.out.alloc (.cells #[.int .i64 (pn : Int), .int .i64 ((pn : Int) + 1)] 3)
                have HOWN4 := Lib.hid hown4
                have HNEWS := Lib.hid (news_of1 wr 3 #[.int .i64 (pn : Int), .int .i64 ((pn : Int) + 1)])
                have hone : ∀ u ∈ [Value.int .i64 (pn : Int), Value.int .i64 ((pn : Int) + 1)], u.oneCell' = true := by intro u hu; simp at hu; rcases hu with rfl | rfl <;> rfl
                have hm1 : 2 * k + 2 ≤ maxLen := by simp only [maxLen]; omega
                have hm2 : (2 * k + 2) * 8 ≤ 140737488355328 := by omega
                have hm3 : w1.heap.size ≤ (wr.alloc (.cells #[.int .i64 (pn : Int), .int .i64 ((pn : Int) + 1)] 3)).heap.size := by have := hB.size; simp; omega
                have HM3 := Lib.hid hm3
                have HONE := Lib.hid hone
                have hBa := hB.alloc hB.size (.cells #[.int .i64 (pn : Int), .int .i64 ((pn : Int) + 1)] 3)
                have HBA := Lib.hid hBa
                clear hown4 hm3 hone hpk hmiss hBa
                go_wp2_with (at_builtin; refine wpList_append_own _ rfl (.tmp 64) (.tmp 68) 22 rfl w1.heap.size 3 i0 (.int .i64 0) 1 8 Try.underlying22 HI0.out hz0 hz1 hz2 rfl (by decide) (.slice A' (2 * k) c') (2 * k) ((tkL t.pairs k).map (Value.int .i64)) rfl HOWN4.out ⟨wr.heap.size, 0, none⟩ 2 2 [Value.int .i64 (pn : Int), Value.int .i64 ((pn : Int) + 1)] rfl rfl HNEWS.out HONE.out hm1 hm2 HM3.out ?_; intro v' w3 hown5 hg5 _)
                have HG5 := Lib.hid hg5
                have HO5 := Lib.hid hown5
                obtain ⟨A'', c'', rfl⟩ := own_shape hown5
                clear hg5 hown5
                go_wp2
                go_roundw
                case rel =>
                  refine ⟨k + 1, by omega, by go_num, ⟨A'', c'', rfl⟩, ?_, ?_, ?_⟩
                  · intro j hj
                    by_cases e : j = k
                    · subst e; exact HPK2.out
                    · exact HP.out j (by omega)
                  · unfold Hid
                    rw [tkL_succ hlt, List.map_append, ← HPV.out]
                    exact HO5.out
                  · exact HBA.out.grown HG5.out HM3.out (fun j hj => (HOWN4.out.lt j hj).1)
                case measure => simp [intOf]; omega
          · have hne : (cA != cB) = true := by simp [he]
            have HF := Lib.hid (HST.out (by rw [Q1.out]; cases takenN t.pairs k pn <;> cases takenN t.pairs k (pn + 1) <;> simp [he]))
            clear he
            go_wp2_with fail
            go_quiet (fail)
            go_wp2_with fail
            go_ret
            exact ⟨ret_bool HF.out.symm, below_drewN HBR.out _⟩
    · obtain rfl : k = t.pairs.length := by omega
      have HF := Lib.hid (pairedB_all HP.out)
      go_wp2_with fail
      go_ret
      exact ⟨ret_bool HF.out.symm, HBR.out⟩
end Go.Proofs.Ytokdleanpkkdpaa
