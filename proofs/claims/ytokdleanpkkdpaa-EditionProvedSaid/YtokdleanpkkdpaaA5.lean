/- Contracts: the reference's owner, and SameInts; conditions: as they say. -/
import Derived.Test.YtokdleanpkkdpaaA4
set_option linter.unusedSimpArgs false
set_option linter.unusedVariables false
namespace Go.Ed
theorem ownerN_hit {l : List Int} {p k : Nat} (hk : k < l.length) (hn : ∀ q ∈ l, 0 ≤ q) (h : l[k] = (p : Int) - 1) : ((ownerN l p : Nat) : Int) = (p : Int) - 1 := by
  have h0 := hn _ (List.getElem_mem hk)
  have hp : 0 < p := by omega
  have : inP l (p - 1) = true := inP_iff.2 ⟨k, hk, by omega⟩
  unfold ownerN
  rw [this]
  simp [hp]
  omega
theorem ownerN_miss {l : List Int} {p : Nat} (h : ∀ k (hk : k < l.length), l[k] ≠ (p : Int) - 1) : ownerN l p = p := by
  unfold ownerN
  by_cases hp : 0 < p
  · have : inP l (p - 1) = false := by
      cases hq : inP l (p - 1)
      · rfl
      · obtain ⟨k, hk, e⟩ := inP_iff.1 hq
        exact absurd (by omega) (h k hk)
    rw [this]; simp
  · simp [hp]
end Go.Ed
namespace Go.Proofs.Ytokdleanpkkdpaa
open Go.RowKit Go.Fh Go.Ed

set_option maxRecDepth 20000 in
set_option maxHeartbeats 2000000 in
theorem owner_any (t : TitD) (x : TA) (p : Nat) (w : World) (hp : p ≤ 1000) (hpl : t.pairs.length ≤ 1000000000) (hn : ∀ q ∈ t.pairs, 0 ≤ q) (hB : Sl encInt 1 w w.heap.size x.b t.pairs) :
    Calls Try.prog 125 #[.agg (titV t x), .int .i64 (p : Int)] w fun e w' => e = .returned (.int .i64 (ownerN t.pairs p : Nat)) ∧ Below w.heap.size w w' := by
  obtain ⟨w1, hw1⟩ : ∃ W, W = w.alloc (.cells (titV t x) 88) := ⟨_, rfl⟩
  have hb1 : Below w.heap.size w w1 := by rw [hw1]; exact (Below.refl _ _).alloc (Nat.le_refl _) _
  have kT : Blk w1 w.heap.size 88 (titV t x) := by rw [hw1]; exact Blk.new _ _ _
  obtain ⟨gT, hgT⟩ : ∃ g, g = w.heap.size := ⟨_, rfl⟩
  rw [← hgT] at kT
  have HB := Lib.hid hB
  have HB1 := Lib.hid hb1
  have HW1 := Lib.hid hw1
  have HGT := Lib.hid hgT
  have KT := Lib.hid kT
  have HN := Lib.hid hn
  have hgl : gT < w1.heap.size := kT.lt
  have f1 := IntWalk.i64_in ((p : Int) - 1) (by omega)
  have r1 := kT.cell 1
  simp [titV] at r1
  have S := Lib.hid ((HB.out.below hb1).mono hb1.size)
  clear hB hb1 hw1 hgT kT hn
  unfold titV at *
  go_enter Try.func125, Try.ntmps125
  go_upto_region 1 with fail
  rw [← HW1.out, ← HGT.out]
  go_wp2_with fail
  go_loopw [5] (fun i wr => ∃ k : Nat, k ≤ t.pairs.length ∧ i = .int .i64 k ∧ Hid (∀ j (hj : j < t.pairs.length), j < k → t.pairs[j] ≠ (p : Int) - 1) ∧ wr = w1) (fun i _ => t.pairs.length - (intOf i).toNat)
  case atStart => exact ⟨0, Nat.zero_le _, rfl, fun j _ hj => absurd hj (by omega), rfl⟩
  case round =>
    obtain ⟨k, hk, rfl, HM, rfl⟩ := hrel
    by_cases hlt : k < t.pairs.length
    · obtain ⟨pb, po, hpa, hpb, c0⟩ := S.out.at1 hlt
      rw [hpa]
      rw [hpa] at r1
      by_cases he : t.pairs[k] = (p : Int) - 1
      · have t1 : (t.pairs[k] == (p : Int) - 1) = true := by simpa using he
        have HF := Lib.hid (ownerN_hit hlt HN.out he)
        clear he
        go_wp2_with fail
        go_ret
        exact ⟨ret_int (by rw [HF.out]), HB1.out⟩
      · have t1 : (t.pairs[k] == (p : Int) - 1) = false := by simpa using he
        have HE := Lib.hid he
        clear he
        go_wp2_with fail
        go_roundw
        case rel =>
          refine ⟨k + 1, by omega, by go_num, ?_, trivial⟩
          intro j hj hjk
          by_cases e : j = k
          · subst e; exact HE.out
          · exact HM.out j hj (by omega)
        case measure => simp [intOf]; omega
    · have HF := Lib.hid (ownerN_miss (p := p) (l := t.pairs) fun j hj => HM.out j hj (by omega))
      go_wp2_with fail
      go_ret
      exact ⟨ret_int (by rw [HF.out]), HB1.out⟩

set_option maxHeartbeats 2000000 in
theorem sameInts_any (A B : Option Addr) (c d : Nat) (l m : List Int) (w : World) (hl : l.length ≤ 1000000000) (hm : m.length ≤ 1000000000) (hA : Sl encInt 1 w w.heap.size A l) (hB : Sl encInt 1 w w.heap.size B m) :
    Calls Try.prog 106 #[.slice A l.length c, .slice B m.length d] w fun e w' => e = .returned (.bool (decide (l = m))) ∧ Below w.heap.size w w' := by
  by_cases hlen : l.length = m.length
  · have hb0 : ((l.length : Int) != (m.length : Int)) = false := by simp [hlen]
    have HL := Lib.hid hlen
    clear hlen
    go_enter Try.func106, Try.ntmps106
    go_wp2
    go_loopw [5] (fun i wr => ∃ k : Nat, k ≤ l.length ∧ i = .int .i64 k ∧ Hid (l.take k = m.take k) ∧ Below w.heap.size w wr) (fun i _ => l.length - (intOf i).toNat)
    case atStart => exact ⟨0, Nat.zero_le _, rfl, by simp [Hid], Below.refl _ _⟩
    case round =>
      obtain ⟨k, hk, rfl, HK, hW⟩ := hrel
      by_cases hlt : k < l.length
      · have hlt2 : k < m.length := by have := HL.out; omega
        obtain ⟨b, off, rfl, hb, c0⟩ := (hA.below hW).at1 hlt
        obtain ⟨b2, off2, rfl, hb2, c2⟩ := (hB.below hW).at1 hlt2
        by_cases he : l[k] = m[k]
        · have hne : (l[k] != m[k]) = false := by simp [he]
          have HE := Lib.hid he
          clear he
          go_wp2
          go_quiet (fail)
          go_wp2
          go_roundw
          case rel => exact ⟨k + 1, by omega, by go_num, by unfold Hid; rw [List.take_succ_eq_append_getElem hlt, List.take_succ_eq_append_getElem hlt2, HK.out, HE.out], below_drewN hW _⟩
          case measure => simp [intOf]; omega
        · have hne : (l[k] != m[k]) = true := by simp [he]
          have hlm : l ≠ m := by intro e; subst e; exact he rfl
          have HE := Lib.hid hlm
          clear he hlm
          go_wp2
          go_quiet (fail)
          go_wp2
          go_ret
          exact ⟨ret_bool (by simp [HE.out]), below_drewN hW _⟩
      · go_wp2
        go_ret
        have e1 : l.take k = l := List.take_of_length_le (by omega)
        have e2 : m.take k = m := List.take_of_length_le (by have := HL.out; omega)
        exact ⟨ret_bool (by have := HK.out; rw [e1, e2] at this; simp [this]), hW⟩
  · have hb0 : ((l.length : Int) != (m.length : Int)) = true := by simp; omega
    have hlm : l ≠ m := by intro e; subst e; exact hlen rfl
    have HE := Lib.hid hlm
    clear hlen hlm
    go_enter Try.func106, Try.ntmps106
    go_wp2
    go_ret
    exact ⟨ret_bool (by simp [HE.out]), Below.refl _ _⟩
end Go.Proofs.Ytokdleanpkkdpaa
