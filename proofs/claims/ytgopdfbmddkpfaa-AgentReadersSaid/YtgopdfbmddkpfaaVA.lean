/- Contract of the reference's listed; conditions: none. -/
import Derived.Test.YtgopdfbmddkpfaaV7
import Derived.Test.YtgopdfbmddkpfaaR1
import Derived.BigQuiet
import Derived.Deep.QuietTactic
set_option linter.unusedSimpArgs false
set_option linter.unusedVariables false
namespace Go.Ag
theorem badAt_ref {l : List (Int × Int)} {k : Nat} : badAt l k = false ↔ (inB (l.getD k (0, 0)).1 0 20000 = true ∧ inB (l.getD k (0, 0)).2 0 20000 = true ∧ (l.getD k (0, 0)).1 ≤ (l.getD k (0, 0)).2 ∧ (0 < k → (l.getD (k - 1) (0, 0)).2 < (l.getD k (0, 0)).1 - 1)) := by
  simp only [badAt, inB, Bool.or_eq_false_iff, Bool.not_eq_false', decide_eq_true_eq, Bool.and_eq_false_iff, decide_eq_false_iff_not]
  constructor
  · rintro ⟨⟨h1, h2⟩, h3⟩
    refine ⟨h1, by omega, by omega, fun hk => ?_⟩
    rcases h3 with h3 | h3
    · omega
    · omega
  · rintro ⟨h1, h2, h3, h4⟩
    refine ⟨⟨h1, by omega⟩, ?_⟩
    by_cases hk : 0 < k
    · right; have := h4 hk; omega
    · left; exact hk
theorem wrongS_true_of {s : SubD} (h : ¬ OkS s) : wrongS s = true := by
  cases e : wrongS s
  · exact absurd ((OkS_iff s).1 e) h
  · rfl
end Go.Ag
namespace Go.Proofs.Ytgopdfbmddkpfaa
open Go.RowKit Go.Fh Go.Ag
set_option maxRecDepth 20000 in
set_option maxHeartbeats 4000000 in
theorem fine_any (s : SubD) (A : Option Addr) (c : Nat) (w : World) (hl : s.hol.length ≤ 9223372036854775807) (hA : Sl enc2 2 w w.heap.size A s.hol) :
    Calls Try.prog 120 #[.agg #[.int .i64 s.id, .int .i64 s.lo, .int .i64 s.hi, .int .i64 s.days, .slice A s.hol.length c]] w fun e w' => e = .returned (.bool (!wrongS s)) ∧ Below w.heap.size w w' := by
  have hb0 : Below w.heap.size w (w.alloc (.cells #[.int .i64 s.id, .int .i64 s.lo, .int .i64 s.hi, .int .i64 s.days, .slice A s.hol.length c] 161)) := (Below.refl _ _).alloc (Nat.le_refl _) _
  have hk0 := Blk.new w 161 #[.int .i64 s.id, .int .i64 s.lo, .int .i64 s.hi, .int .i64 s.days, .slice A s.hol.length c]
  have HA := Lib.hid hA
  have HK0 := Lib.hid hk0
  have HB0 := Lib.hid hb0
  have HYES := Lib.hid (fun (h : OkS s) => (OkS_iff s).2 h)
  have HNO := Lib.hid (fun (h : ¬ OkS s) => wrongS_true_of h)
  clear hA hk0 hb0
  by_cases hh : inB s.id 0 1000000 = true ∧ inB s.lo 0 20000 = true ∧ inB s.hi 0 20000 = true ∧ s.lo ≤ s.hi ∧ inB s.days 1 127 = true ∧ s.hol.length ≤ 20
  · obtain ⟨c1, c2, c3, c4, c5, c6⟩ := hh
    have HC := Lib.hid (And.intro c1 (And.intro c2 (And.intro c3 (And.intro c4 (And.intro c5 c6)))))
    have t4 : decide (s.hi < s.lo) = false := by simp; omega
    have t6 : decide ((20 : Int) < (s.hol.length : Int)) = false := by simp; omega
    go_enter Try.func120, Try.ntmps120
    go_wp2_with (go_at_call 103; refine (rin_any _ _ _ _).mono ?_; rintro e w' ⟨rfl, rfl⟩)
    go_loopw [3] (fun i wr => ∃ k : Nat, k ≤ s.hol.length ∧ i = .int .i64 k ∧ Hid (∀ j, j < k → badAt s.hol j = false) ∧ Below (w.alloc (.cells #[.int .i64 s.id, .int .i64 s.lo, .int .i64 s.hi, .int .i64 s.days, .slice A s.hol.length c] 161)).heap.size (w.alloc (.cells #[.int .i64 s.id, .int .i64 s.lo, .int .i64 s.hi, .int .i64 s.days, .slice A s.hol.length c] 161)) wr) (fun i _ => s.hol.length - (intOf i).toNat)
    case atStart => exact ⟨0, Nat.zero_le _, rfl, fun j hj => by omega, Below.refl _ _⟩
    case round =>
      obtain ⟨k, hk, rfl, HN, hW⟩ := hrel
      have hbr := HB0.out.trans (hW.mono HB0.out.size)
      have kb := HK0.out.below hW (by simp)
      have u4 := kb.cell 4
      simp at u4
      have hgw : w.heap.size < wr.heap.size := kb.lt
      by_cases hlt : k < s.hol.length
      · obtain ⟨b, off, rfl, hb, d0, d1⟩ := (HA.out.below hbr).at2 hlt
        have e1 : s.hol.getD k (0, 0) = s.hol[k] := by simp [hlt]
        have hprev : 0 < k → wr.cell? ⟨b, off + (k - 1) * 2 + 1, none⟩ = some (.int .i64 (s.hol.getD (k - 1) (0, 0)).2) := by
          intro h0
          obtain ⟨b', off', e', _, _, d1'⟩ := (HA.out.below hbr).at2 (k := k - 1) (by omega)
          obtain ⟨rfl, rfl⟩ : b = b' ∧ off = off' := by simpa using e'
          rw [d1']; simp [show k - 1 < s.hol.length by omega]
        have hba := badAt_ref (l := s.hol) (k := k)
        rw [e1] at hba
        obtain ⟨x, hx⟩ : ∃ x, x = s.hol[k] := ⟨_, rfl⟩
        rw [← hx] at d0 d1 hba
        have hbw : b < wr.heap.size := by omega
        have HBA := Lib.hid hba
        have HBX := Lib.hid (hW.alloc hW.size (.cells #[.int .i64 x.1, .int .i64 x.2] 88))
        have HBR := Lib.hid (hbr.alloc hbr.size (.cells #[.int .i64 x.1, .int .i64 x.2] 88))
        have hno : badAt s.hol k = true → wrongS s = true := fun h => HNO.out (fun ok => by have := ok.2.2.2.2.2 k hlt; rw [h] at this; cases this)
        have HNOK := Lib.hid hno
        clear e1 hba hx kb hno hbr
        clear HC t4 t6 c1 c2 c3 c4 c5 c6
        by_cases hgood : badAt s.hol k = false
        · obtain ⟨a1, a2, a3, a4⟩ := HBA.out.1 hgood
          have t1 : decide (x.2 < x.1) = false := by simp; omega
          have hn2 : ∀ j, j < k + 1 → badAt s.hol j = false := by
            intro j hj
            by_cases e : j = k
            · subst e; exact hgood
            · exact HN.out j (by omega)
          have HN2 := Lib.hid hn2
          have b1 := inB_iff.1 a1
          have w1 := IntWalk.i64_in (x.1 - 1) (by omega)
          clear hgood hn2
          by_cases h0 : k = 0
          · subst h0
            simp only [Nat.zero_mul, Nat.add_zero] at d0 d1
            go_wp2_with fail
            go_quiet ((go_at_call 103; exact Calls.quiet_of_same ((rin_any _ _ _ _).mono (fun e w' he => ⟨he.1, he.2.symm⟩))))
            go_wp2_with fail
            go_roundw
            case rel => exact ⟨1, by omega, rfl, HN2, below_drewN HBX.out _⟩
            case measure => simp [intOf]; omega
          · obtain ⟨j, rfl⟩ : ∃ j, k = j + 1 := ⟨k - 1, by omega⟩
            have p1 := hprev (by omega)
            have t2 : decide ((0 : Int) < ((j + 1 : Nat) : Int)) = true := decide_eq_true (by omega)
            simp only [Nat.add_sub_cancel] at p1 a4
            have t3 : decide (x.1 - 1 ≤ (s.hol.getD j (0, 0)).2) = false := decide_eq_false (by have := a4 (by omega); omega)
            have w2 := IntWalk.i64_in (((j + 1 : Nat) : Int) - 1) (by omega)
            generalize (s.hol.getD j (0, 0)).2 = z at *
            clear hprev a4
            go_wp2_with fail
            go_quiet ((go_at_call 103; exact Calls.quiet_of_same ((rin_any _ _ _ _).mono (fun e w' he => ⟨he.1, he.2.symm⟩))))
            go_wp2_with fail
            go_roundw
            case rel => exact ⟨j + 1 + 1, by omega, by go_num, HN2, below_drewN HBX.out _⟩
            case measure => simp [intOf]; omega
        · have hbt : badAt s.hol k = true := by simpa using hgood
          have hwt := HNOK.out hbt
          have HWT := Lib.hid hwt
          have hnot : ¬ (inB x.1 0 20000 = true ∧ inB x.2 0 20000 = true ∧ x.1 ≤ x.2 ∧ (0 < k → (s.hol.getD (k - 1) (0, 0)).2 < x.1 - 1)) := fun h => hgood (HBA.out.2 h)
          clear hgood hbt hwt
          have hor : inB x.1 0 20000 = false ∨ (inB x.1 0 20000 = true ∧ inB x.2 0 20000 = false) ∨ (inB x.1 0 20000 = true ∧ inB x.2 0 20000 = true ∧ decide (x.2 < x.1) = true) ∨ (inB x.1 0 20000 = true ∧ inB x.2 0 20000 = true ∧ decide (x.2 < x.1) = false ∧ 0 < k ∧ x.1 - 1 ≤ (s.hol.getD (k - 1) (0, 0)).2) := by
            cases i1 : inB x.1 0 20000
            · exact .inl rfl
            · cases i2 : inB x.2 0 20000
              · exact .inr (.inl ⟨rfl, rfl⟩)
              · by_cases i3 : x.2 < x.1
                · exact .inr (.inr (.inl ⟨rfl, rfl, decide_eq_true i3⟩))
                · refine .inr (.inr (.inr ⟨rfl, rfl, decide_eq_false i3, ?_, ?_⟩))
                  · by_cases h0 : 0 < k
                    · exact h0
                    · exact absurd ⟨i1, i2, by omega, fun h => absurd h h0⟩ hnot
                  · by_cases h1 : x.1 - 1 ≤ (s.hol.getD (k - 1) (0, 0)).2
                    · exact h1
                    · exact absurd ⟨i1, i2, by omega, fun _ => by omega⟩ hnot
          clear hnot
          rcases hor with a1 | ⟨a1, a2⟩ | ⟨a1, a2, a3⟩ | ⟨a1, a2, a3, h0, a4⟩
          case inr.inr.inr =>
            obtain ⟨j, rfl⟩ : ∃ j, k = j + 1 := ⟨k - 1, by omega⟩
            have p1 := hprev (by omega)
            have t2 : decide ((0 : Int) < ((j + 1 : Nat) : Int)) = true := decide_eq_true (by omega)
            simp only [Nat.add_sub_cancel] at p1 a4
            have b1 := inB_iff.1 a1
            have w1 := IntWalk.i64_in (x.1 - 1) (by omega)
            have t3 : decide (x.1 - 1 ≤ (s.hol.getD j (0, 0)).2) = true := decide_eq_true a4
            have w2 := IntWalk.i64_in (((j + 1 : Nat) : Int) - 1) (by omega)
            generalize (s.hol.getD j (0, 0)).2 = z at *
            clear hprev a4
            go_wp2_with fail
            go_quiet ((go_at_call 103; exact Calls.quiet_of_same ((rin_any _ _ _ _).mono (fun e w' he => ⟨he.1, he.2.symm⟩))))
            go_wp2_with fail
            go_ret
            exact ⟨ret_bool (by rw [HWT.out]; rfl), below_drewN HBR.out _⟩
          all_goals
            clear hprev
            by_cases h0 : k = 0
            · subst h0
              simp only [Nat.zero_mul, Nat.add_zero] at d0 d1
              go_wp2_with fail
              go_quiet ((go_at_call 103; exact Calls.quiet_of_same ((rin_any _ _ _ _).mono (fun e w' he => ⟨he.1, he.2.symm⟩))))
              go_wp2_with fail
              go_ret
              exact ⟨ret_bool (by rw [HWT.out]; rfl), below_drewN HBR.out _⟩
            · go_wp2_with fail
              go_quiet ((go_at_call 103; exact Calls.quiet_of_same ((rin_any _ _ _ _).mono (fun e w' he => ⟨he.1, he.2.symm⟩))))
              go_wp2_with fail
              go_ret
              exact ⟨ret_bool (by rw [HWT.out]; rfl), below_drewN HBR.out _⟩
      · obtain rfl : k = s.hol.length := by omega
        have hok : wrongS s = false := HYES.out ⟨inB_iff.1 c1, inB_iff.1 c2, by have := inB_iff.1 c3; omega, inB_iff.1 c5, c6, fun j hj => HN.out j hj⟩
        have HOK := Lib.hid hok
        clear hok
        go_wp2_with fail
        go_ret
        exact ⟨ret_bool (by rw [HOK.out]; rfl), hbr⟩
  · have hno : wrongS s = true := HNO.out (fun ok => hh ⟨inB_iff.2 ok.1, inB_iff.2 ok.2.1, inB_iff.2 (by have := ok.2.1; have := ok.2.2.1; omega), ok.2.2.1.1, inB_iff.2 ok.2.2.2.1, ok.2.2.2.2.1⟩)
    have HNOK := Lib.hid hno
    have hor : inB s.id 0 1000000 = false ∨ (inB s.id 0 1000000 = true ∧ inB s.lo 0 20000 = false) ∨ (inB s.id 0 1000000 = true ∧ inB s.lo 0 20000 = true ∧ inB s.hi 0 20000 = false) ∨ (inB s.id 0 1000000 = true ∧ inB s.lo 0 20000 = true ∧ inB s.hi 0 20000 = true ∧ decide (s.hi < s.lo) = true) ∨ (inB s.id 0 1000000 = true ∧ inB s.lo 0 20000 = true ∧ inB s.hi 0 20000 = true ∧ decide (s.hi < s.lo) = false ∧ inB s.days 1 127 = false) ∨ (inB s.id 0 1000000 = true ∧ inB s.lo 0 20000 = true ∧ inB s.hi 0 20000 = true ∧ decide (s.hi < s.lo) = false ∧ inB s.days 1 127 = true ∧ decide ((20 : Int) < (s.hol.length : Int)) = true) := by
      cases i1 : inB s.id 0 1000000
      · exact .inl rfl
      · cases i2 : inB s.lo 0 20000
        · exact .inr (.inl ⟨rfl, rfl⟩)
        · cases i3 : inB s.hi 0 20000
          · exact .inr (.inr (.inl ⟨rfl, rfl, rfl⟩))
          · by_cases i4 : s.hi < s.lo
            · exact .inr (.inr (.inr (.inl ⟨rfl, rfl, rfl, decide_eq_true i4⟩)))
            · cases i5 : inB s.days 1 127
              · exact .inr (.inr (.inr (.inr (.inl ⟨rfl, rfl, rfl, decide_eq_false i4, rfl⟩))))
              · refine .inr (.inr (.inr (.inr (.inr ⟨rfl, rfl, rfl, decide_eq_false i4, rfl, ?_⟩))))
                have : ¬ s.hol.length ≤ 20 := fun h => hh ⟨i1, i2, i3, by omega, i5, h⟩
                simp; omega
    clear hno hh
    rcases hor with c1 | ⟨c1, c2⟩ | ⟨c1, c2, c3⟩ | ⟨c1, c2, c3, c4⟩ | ⟨c1, c2, c3, c4, c5⟩ | ⟨c1, c2, c3, c4, c5, c6⟩
    all_goals
      go_enter Try.func120, Try.ntmps120
      go_wp2_with (go_at_call 103; refine (rin_any _ _ _ _).mono ?_; rintro e w' ⟨rfl, rfl⟩)
      go_ret
      exact ⟨ret_bool (by rw [HNOK.out]; rfl), HB0.out⟩
end Go.Proofs.Ytgopdfbmddkpfaa
namespace Go.Proofs.Ytgopdfbmddkpfaa
open Go.RowKit Go.Fh Go.Ag
theorem metS_hit {l : List SubM} {j k : Nat} (hj : j < k) (hk : k ≤ l.length) {x : Int} (h : (l[j]'(by omega)).1.id = x) : metS (l.map Prod.fst) k x = true :=
  metS_map.2 ⟨((l[j]'(by omega)).1.id, l[j]'(by omega)), List.mem_map.2 ⟨l[j]'(by omega), by rw [List.mem_take_iff_getElem]; exact ⟨j, by omega, rfl⟩, rfl⟩, h⟩

set_option maxRecDepth 20000 in
set_option maxHeartbeats 4000000 in
theorem listed_any (A : Option Addr) (c : Nat) (l : List SubM) (w : World) (hl : l.length ≤ 9223372036854775807) (hh : ∀ x ∈ l, x.1.hol.length ≤ 1000) (hA : Sl encSub 5 w w.heap.size A l) (hI : ∀ x ∈ l, Sl enc2 2 w w.heap.size x.2.1 x.1.hol) :
    Calls Try.prog 123 #[.slice A l.length c] w fun e w' => e = .returned (.int .i64 (listE (l.map Prod.fst))) ∧ Below w.heap.size w w' := by
  by_cases h500 : 500 < l.length
  · have HR := Lib.hid (show listE (l.map Prod.fst) = 2 by simp [listE, h500])
    go_enter Try.func123, Try.ntmps123
    go_wp2_with fail
    go_ret
    exact ⟨ret_int HR.out.symm, Below.refl _ _⟩
  · have HR1 := Lib.hid (show listE (l.map Prod.fst) = firstErr (errS (l.map Prod.fst)) l.length by simp [listE, h500])
    have HA := Lib.hid hA
    have HIN := Lib.hid hI
    have HH := Lib.hid hh
    clear hA hI hh
    go_enter Try.func123, Try.ntmps123
    go_wp2_with fail
    go_loopw [3] (fun i wr => ∃ k : Nat, k ≤ l.length ∧ i = .int .i64 k ∧ Hid (firstErr (errS (l.map Prod.fst)) k = 0) ∧ Below w.heap.size w wr) (fun i _ => l.length - (intOf i).toNat)
    case atStart => exact ⟨0, Nat.zero_le _, rfl, rfl, Below.refl _ _⟩
    case round =>
      obtain ⟨k, hk, rfl, HE, hB⟩ := hrel
      by_cases hlt : k < l.length
      · obtain ⟨b, off, rfl, hb, c0, c1, c2, c3, c4⟩ := (HA.out.below hB).at5 hlt
        have hlt2 : k < (l.map Prod.fst).length := by simpa using hlt
        have hget := errS_get hlt2
        rw [List.getElem_map] at hget
        have hstop : errS (l.map Prod.fst) k ≠ 0 → listE (l.map Prod.fst) = errS (l.map Prod.fst) k := fun h => by rw [HR1.out, firstErr_stop HE.out h hlt]
        have hxI := HIN.out _ (List.getElem_mem hlt)
        have hxh := HH.out _ (List.getElem_mem hlt)
        have hsz := hB.size
        obtain ⟨x, hx⟩ : ∃ x, x = l[k] := ⟨_, rfl⟩
        rw [← hx] at c0 c1 c2 c3 c4 hget hxI hxh
        have HF := Lib.hid (fine_any x.1 x.2.1 x.2.2 wr (by omega) ((hxI.below hB).mono hB.size))
        have HG := Lib.hid hget
        have HS := Lib.hid hstop
        have HX := Lib.hid hx
        clear hget hstop hxI hx hlt2
        cases hbad : wrongS x.1
        · rw [hbad] at HF
          go_wp2_with fail
          refine HF.out.mono ?_
          rintro e w1 ⟨rfl, hb1⟩
          have HB1 := Lib.hid (hB.trans (hb1.mono hB.size))
          clear hb1 c0 c1 c2 c3 c4
          go_wp2_with fail
          go_loopw [4] (fun i wr => ∃ j : Nat, j ≤ k ∧ i = .int .i64 j ∧ Hid (metS (l.map Prod.fst) j x.1.id = false) ∧ Below w.heap.size w wr) (fun i _ => k - (intOf i).toNat)
          case atStart => exact ⟨0, Nat.zero_le _, rfl, by simp [Hid, metS], HB1.out⟩
          case round =>
            clear hB hsz
            obtain ⟨j, hj, rfl, HM, hB⟩ := hrel
            have hsz := hB.size
            by_cases hjt : j < k
            · have hjl : j < l.length := by omega
              have d0 : wr.cell? ⟨b, off + j * 5, none⟩ = some (.int .i64 l[j].1.id) := by
                obtain ⟨b', off', e', _, d0, _⟩ := (HA.out.below hB).at5 hjl
                obtain ⟨rfl, rfl⟩ : b = b' ∧ off = off' := by simpa using e'
                exact d0
              have d1 : wr.cell? ⟨b, off + k * 5, none⟩ = some (.int .i64 x.1.id) := by
                obtain ⟨b', off', e', _, d0, _⟩ := (HA.out.below hB).at5 hlt
                obtain ⟨rfl, rfl⟩ : b = b' ∧ off = off' := by simpa using e'
                rw [d0, HX.out]
              have hjl2 : j < (l.map Prod.fst).length := by simpa using hjl
              have hsu := metS_succ hjl2 x.1.id
              rw [List.getElem_map] at hsu
              have hhit := fun (h : l[j].1.id = x.1.id) => metS_hit hjt hk (x := x.1.id) h
              obtain ⟨z, hz⟩ : ∃ z, z = l[j].1.id := ⟨_, rfl⟩
              rw [← hz] at d0 hsu hhit
              have HSU := Lib.hid hsu
              have HHIT := Lib.hid hhit
              clear hz hsu hhit hjl2
              by_cases he : z = x.1.id
              · have t1 : (z == x.1.id) = true := by simp [he]
                have hf : listE (l.map Prod.fst) = 10 := by
                  have e1 : errS (l.map Prod.fst) k = 10 := by rw [HG.out, hbad, HHIT.out he]; simp
                  rw [HS.out (by rw [e1]; decide), e1]
                have HFN := Lib.hid hf
                clear hf he
                go_wp2_with fail
                go_quiet (fail)
                go_wp2_with fail
                go_ret
                exact ⟨ret_int HFN.out.symm, below_drewN hB _⟩
              · have t1 : (z == x.1.id) = false := by simp [he]
                have hm : metS (l.map Prod.fst) (j + 1) x.1.id = false := by rw [HSU.out, HM.out, t1]; rfl
                have HM2 := Lib.hid hm
                clear hm he
                go_wp2_with fail
                go_quiet (fail)
                go_wp2_with fail
                go_roundw
                case rel => exact ⟨j + 1, by omega, by go_num, HM2, below_drewN hB _⟩
                case measure => simp [intOf]; omega
            · obtain rfl : j = k := by omega
              have hgo := firstErr_go HE.out (by rw [HG.out, hbad, HM.out]; simp)
              have HGO := Lib.hid hgo
              clear hgo
              go_wp2_with fail
              go_roundw
              case rel => exact ⟨j + 1, by omega, by go_num, HGO, hB⟩
              case measure => simp [intOf]; omega
        · rw [hbad] at HF
          have hst := HS.out (by rw [HG.out, hbad]; simp)
          rw [HG.out, hbad] at hst
          simp only [if_true] at hst
          have HST := Lib.hid hst
          clear hst
          go_wp2_with fail
          refine HF.out.mono ?_
          rintro e w1 ⟨rfl, hb1⟩
          go_wp2_with fail
          go_ret
          exact ⟨ret_int HST.out.symm, hB.trans (hb1.mono hB.size)⟩
      · obtain rfl : k = l.length := by omega
        have HR := Lib.hid (HR1.out.trans HE.out)
        go_wp2_with fail
        go_ret
        exact ⟨ret_int HR.out.symm, hB⟩
end Go.Proofs.Ytgopdfbmddkpfaa
