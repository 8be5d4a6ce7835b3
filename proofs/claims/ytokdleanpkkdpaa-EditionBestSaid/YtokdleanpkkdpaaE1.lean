/- Contracts of open at a wrong title, orders, ask; conditions: lengths that a title has. -/
import Derived.Test.YtokdleanpkkdpaaD6
set_option linter.unusedSimpArgs false
set_option linter.unusedVariables false
namespace Go.Ed
open Go.Fh Go.RowKit Go.Proofs.Ytokdleanpkkdpaa
def seenN (l : List Int) (k : Nat) (i : Nat) : Bool := (l.take k).any fun q => q == (i : Int)
theorem seenN_succ {l : List Int} {k : Nat} (hk : k < l.length) (i : Nat) : seenN l (k + 1) i = (seenN l k i || l[k] == (i : Int)) := by
  unfold seenN
  rw [List.take_succ_eq_append_getElem hk, List.any_append]; simp
theorem orders_stop {n : Nat} {l : List Int} {k : Nat} (hk : k < l.length) (h : inB l[k] 0 ((n : Int) - 1) = false ∨ seenN l k l[k].toNat = true ∧ 0 ≤ l[k]) : ordersB n l = false := by
  unfold ordersB
  rcases h with h | ⟨h, h0⟩
  · have : (l.all fun e => inB e 0 ((n : Int) - 1)) = false := List.all_eq_false.2 ⟨l[k], List.getElem_mem hk, by simp [h]⟩
    rw [this]; simp
  · have : ¬ l.Nodup := by
      intro hn
      obtain ⟨q, hq, e⟩ := List.any_eq_true.1 h
      obtain ⟨j, hj, rfl⟩ := List.getElem_of_mem hq
      rw [List.length_take] at hj
      rw [List.getElem_take] at e
      have e2 : l[j] = l[k] := by have := beq_iff_eq.1 e; omega
      have := (List.pairwise_iff_getElem.1 hn) j k (by omega) hk (by omega)
      exact this e2
    simp [this]
theorem orders_all {n : Nat} {l : List Int} (h : ∀ k (hk : k < l.length), inB l[k] 0 ((n : Int) - 1) = true ∧ seenN l k l[k].toNat = false) : ordersB n l = decide (l.length = n) := by
  unfold ordersB
  have h1 : (l.all fun e => inB e 0 ((n : Int) - 1)) = true := by
    rw [List.all_eq_true]
    intro x hx
    obtain ⟨k, hk, rfl⟩ := List.getElem_of_mem hx
    exact (h k hk).1
  have h2 : l.Nodup := by
    refine List.pairwise_iff_getElem.2 fun i j hi hj hij e => ?_
    have hs := (h j hj).2
    have := List.any_eq_false.1 hs l[i] (by
      have : (l.take j)[i]'(by rw [List.length_take]; omega) = l[i] := by rw [List.getElem_take]
      rw [← this]; exact List.getElem_mem _)
    have hb := inB_iff.1 (h j hj).1
    rw [e] at this
    simp at this
    omega
  simp [h1, h2]
end Go.Ed
namespace Go.Proofs.Ytokdleanpkkdpaa
open Go.RowKit Go.Fh Go.Ed
set_option maxRecDepth 20000 in
set_option maxHeartbeats 2000000 in
theorem open_bad (t : TitD) (x : TA) (zs : List ZonM) (w : World) (hs : Sizes t) (hT : TitAt w w.heap.size t x zs) (hc : checkT t ≠ 0) :
    Calls Try.prog 61 #[.agg (titV t x)] w fun e w' => e = .returned (.tuple #[.pointer none, .int .i64 (checkT t)]) ∧ Below w.heap.size w w' := by
  obtain ⟨w1, hw1⟩ : ∃ W, W = w.alloc (.cells (titV t x) 26) := ⟨_, rfl⟩
  have hb1 : Below w.heap.size w w1 := by rw [hw1]; exact (Below.refl _ _).alloc (Nat.le_refl _) _
  obtain ⟨gT, hgT⟩ : ∃ g, g = w.heap.size := ⟨_, rfl⟩
  have kT : Blk w1 gT 26 (titV t x) := by rw [hw1, hgT]; exact Blk.new _ _ _
  have hT1 := (hT.below hb1).mono hb1.size
  have r0 := kT.cell 0
  have r1 := kT.cell 1
  have r2 := kT.cell 2
  have r3 := kT.cell 3
  have r4 := kT.cell 4
  have r5 := kT.cell 5
  have r6 := kT.cell 6
  have r7 := kT.cell 7
  simp [titV] at r0 r1 r2 r3 r4 r5 r6 r7
  have HCK := Lib.hid ((check_any t x zs w1 hs hT1))
  obtain ⟨ck, hck⟩ : ∃ c, c = checkT t := ⟨_, rfl⟩
  rw [← hck] at HCK hc ⊢
  have ht : (ck != 0) = true := by simpa using hc
  have HB1 := Lib.hid hb1
  have HW1 := Lib.hid hw1
  have HGT := Lib.hid hgT
  clear hb1 hw1 hgT kT hT1 hs hT hc hck
  unfold titV at *
  go_enter Try.func61, Try.ntmps61
  go_upto_region 1 with fail
  rw [← HW1.out, ← HGT.out]
  go_wp2_with (go_at_call 41; refine HCK.out.mono ?_; rintro e w2 ⟨rfl, hb2⟩; have HB2 := Lib.hid hb2; clear hb2)
  go_ret2
  exact ⟨rfl, HB1.out.trans (HB2.out.mono HB1.out.size)⟩
set_option maxRecDepth 20000 in
set_option maxHeartbeats 4000000 in
theorem orders_any (t : TitD) (x : TA) (k : Wk) (B : Nat) (A : Option Addr) (c : Nat) (l : List Int) (w : World) (hW : WorkAt w B t x k) (hk7 : k.es.length ≤ 1000) (hl : l.length ≤ 1000000000) (hA : Sl encInt 1 w w.heap.size A l) :
    Calls Try.prog 112 #[.pointer (some ⟨k.g, 0, none⟩), .slice A l.length c] w fun e w' => e = .returned (.bool (ordersB k.es.length l)) ∧ Below w.heap.size w w' := by
  obtain ⟨n, hn⟩ : ∃ n, n = k.es.length := ⟨_, rfl⟩
  have y8 := hW.hk.cell 8
  simp [workV] at y8
  rw [← hn] at y8 hk7 ⊢
  have hmk := run_make_row' (P := Try.prog) 193 4 (.bool false) 1 Try.underlying193 infoBool rfl .i64 .i64 n (by omega) (by omega) w
  obtain ⟨w2, hw2⟩ : ∃ W, W = w.alloc (.cells (madeCells #[.bool false] n) 4) := ⟨_, rfl⟩
  rw [← hw2] at hmk
  have hr0 : w2.rowIs w.heap.size 4 n (fun _ => .bool false) := by rw [hw2]; exact World.rowIs_made w (.bool false) n 4
  have hb12 : Below w.heap.size w w2 := by rw [hw2]; exact (Below.refl _ _).alloc (Nat.le_refl _) _
  obtain ⟨gK, hgK⟩ : ∃ g, g = w.heap.size := ⟨_, rfl⟩
  rw [← hgK] at hmk hr0
  have HA := Lib.hid hA
  have HGK := Lib.hid (show w.heap.size ≤ gK by omega)
  have HR0 := Lib.hid hr0
  have HB12 := Lib.hid hb12
  generalize k.E = E at *
  generalize k.cE = cE at *
  generalize k.g = gW at *
  clear hA hw2 hgK hr0 hb12 hW hn
  go_enter Try.func112, Try.ntmps112
  go_upto_region 2 with fail
  clear hmk y8
  go_wp2_with fail
  go_loopw [16] (fun i wr => ∃ k : Nat, k ≤ l.length ∧ i = .int .i64 k ∧ Hid (∀ j (h : j < l.length), j < k → inB l[j] 0 ((n : Int) - 1) = true ∧ seenN l j l[j].toNat = false) ∧ Hid (wr.rowIs gK 4 n (fun j => .bool (seenN l k j))) ∧ Below w.heap.size w wr) (fun i _ => l.length - (intOf i).toNat)
  case atStart => exact ⟨0, Nat.zero_le _, rfl, fun j _ hj => absurd hj (by omega), by simpa [Hid, seenN] using HR0.out, HB12.out⟩
  case round =>
    obtain ⟨k, hk, rfl, HP, HR, hB⟩ := hrel
    have HBR := Lib.hid hB
    by_cases hlt : k < l.length
    · obtain ⟨pb, po, hpa, hpb, c0⟩ := (HA.out.below hB).at1 hlt
      subst hpa
      obtain ⟨p, hp⟩ : ∃ p, p = l[k] := ⟨_, rfl⟩
      have f1 := IntWalk.i64_in ((n : Int) - 1) (by omega)
      have HST := Lib.hid (fun h => orders_stop (n := n) hlt h)
      rw [← hp] at c0 HST
      have HPV := Lib.hid hp
      clear hp hB
      cases hin : inB p 0 ((n : Int) - 1)
      · have HF := Lib.hid (HST.out (.inl hin))
        go_wp2_with (go_at_call 65; refine (within_any _ _ _ _).mono ?_; rintro e w' ⟨rfl, rfl⟩)
        go_ret
        exact ⟨ret_bool HF.out.symm, HBR.out⟩
      · have hpr := inB_iff.1 hin
        obtain ⟨pn, rfl⟩ : ∃ pn : Nat, p = (pn : Int) := ⟨p.toNat, by omega⟩
        have hp1 : pn < n := by omega
        have d1 := HR.out.cell hp1
        cases hs : seenN l k pn
        · rw [hs] at d1
          have z1 := HR.out.frozen pn
          have HSN := Lib.hid hs
          have HIN := Lib.hid hin
          have hsu := fun i => seenN_succ hlt i
          have HSU := Lib.hid hsu
          clear hs hsu
          go_wp2_with (go_at_call 65; refine (within_any _ _ _ _).mono ?_; rintro e w' ⟨rfl, rfl⟩)
          go_roundw
          case rel =>
            refine ⟨k + 1, by omega, by go_num, ?_, ?_, ?_⟩
            · intro j h hj
              by_cases e : j = k
              · subst e; rw [← HPV.out]; exact ⟨HIN.out, by simpa using HSN.out⟩
              · exact HP.out j h (by omega)
            · refine World.rowIs.congr (HR.out.set pn (.bool true)) fun j hj => ?_
              rw [HSU.out, ← HPV.out]
              by_cases e1 : j = pn
              · subst e1; simp
              · have a1 : ((pn : Int) == (j : Int)) = false := by simp; omega
                rw [a1]; simp [e1]
            · exact HBR.out.setCell (by exact HGK.out) _
          case measure => simp [intOf]; omega
        · rw [hs] at d1
          have HF := Lib.hid (HST.out (.inr ⟨by simpa using hs, by omega⟩))
          clear hs
          go_wp2_with (go_at_call 65; refine (within_any _ _ _ _).mono ?_; rintro e w' ⟨rfl, rfl⟩)
          go_ret
          exact ⟨ret_bool HF.out.symm, HBR.out⟩
    · obtain rfl : k = l.length := by omega
      have HF := Lib.hid (orders_all (n := n) fun k hk => HP.out k hk hk)
      go_wp2_with fail
      go_ret
      refine ⟨ret_bool ?_, HBR.out⟩
      rw [HF.out]
      by_cases h : l.length = n
      · simp [h]
      · simp [h]; omega
end Go.Proofs.Ytokdleanpkkdpaa
