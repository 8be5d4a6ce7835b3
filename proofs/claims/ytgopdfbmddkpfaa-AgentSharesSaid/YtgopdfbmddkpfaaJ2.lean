/- Contract of the reference's asked; conditions: none. -/
import Derived.Test.YtgopdfbmddkpfaaR1
import Derived.Test.YtgopdfbmddkpfaaSpec7
import Derived.BigQuiet
import Derived.Deep.QuietTactic
set_option linter.unusedSimpArgs false
set_option linter.unusedVariables false
namespace Go.Proofs.Ytgopdfbmddkpfaa
open Go.RowKit Go.Fh Go.Ag
theorem metO_hit {l : List Ord3} {j k : Nat} (hj : j < k) (hk : k ≤ l.length) {x : Int} (h : (l[j]'(by omega)).1 = x) : metO l k x = true := by
  unfold metO
  rw [List.any_eq_true]
  refine ⟨l[j]'(by omega), ?_, by simp [h]⟩
  rw [List.mem_take_iff_getElem]
  exact ⟨j, by omega, rfl⟩

set_option maxRecDepth 20000 in
set_option maxHeartbeats 4000000 in
theorem asked_any (A : Option Addr) (c : Nat) (l : List Ord3) (copies : Int) (w : World) (hl : l.length ≤ 9223372036854775807) (hA : Sl enc3 3 w w.heap.size A l) :
    Calls Try.prog 107 #[.slice A l.length c, .int .i64 copies] w fun e w' => e = .returned (.int .i64 (sharedE l copies)) ∧ Below w.heap.size w w' := by
  by_cases h40 : 40 < l.length
  · have hr : sharedE l copies = 2 := by simp [sharedE, h40]
    have HR := Lib.hid hr
    clear hr
    go_enter Try.func107, Try.ntmps107
    go_wp2_with fail
    go_ret
    exact ⟨ret_int HR.out.symm, Below.refl _ _⟩
  · have hr1 : firstErr (errO l) l.length ≠ 0 → sharedE l copies = firstErr (errO l) l.length := fun h => by simp [sharedE, h40, h]
    have hr2 : firstErr (errO l) l.length = 0 → sharedE l copies = if copies < 0 then 6 else if copies < needO l then 4 else 0 := fun h => by simp [sharedE, h40, h]
    have HR1 := Lib.hid hr1
    have HR2 := Lib.hid hr2
    have HA := Lib.hid hA
    clear hr1 hr2 hA
    go_enter Try.func107, Try.ntmps107
    go_wp2_with fail
    go_loopw [5, 6] (fun n i wr => ∃ k : Nat, k ≤ l.length ∧ i = .int .i64 k ∧ n = .int .i64 (needO (l.take k)) ∧ Hid (firstErr (errO l) k = 0) ∧ Below w.heap.size w wr) (fun _ i _ => l.length - (intOf i).toNat)
    case atStart => exact ⟨0, Nat.zero_le _, rfl, rfl, rfl, Below.refl _ _⟩
    case round =>
      obtain ⟨k, hk, rfl, rfl, HE, hB⟩ := hrel
      have hok := firstO_ok hk HE.out
      have hbd := needO_bd hok
      have hlk : (l.take k).length ≤ 40 := by simp; omega
      by_cases hlt : k < l.length
      · obtain ⟨b, off, rfl, hb, c0, c1, c2⟩ := (HA.out.below hB).at3 hlt
        have hsz := hB.size
        have hget := errO_get hlt
        have hstop : errO l k ≠ 0 → sharedE l copies = errO l k := fun h => by rw [HR1.out (by rw [firstErr_stop HE.out h hlt]; exact h), firstErr_stop HE.out h hlt]
        have HS := Lib.hid hstop
        have hns := needO_snoc (l.take k) l[k]
        rw [← List.take_succ_eq_append_getElem hlt] at hns
        have HN := Lib.hid hns
        obtain ⟨x, hx⟩ : ∃ x, x = l[k] := ⟨_, rfl⟩
        rw [← hx] at c0 c1 c2 hget
        have HG := Lib.hid hget
        have HX := Lib.hid hx
        have hbw : b < wr.heap.size := by omega
        have hBn := hB.alloc hB.size (.cells #[.int .i64 x.1, .int .i64 x.2.1, .int .i64 x.2.2] 125)
        obtain ⟨g1, hg1⟩ : ∃ g, g = wr.heap.size := ⟨_, rfl⟩
        have hkn : Blk (wr.alloc (.cells #[.int .i64 x.1, .int .i64 x.2.1, .int .i64 x.2.2] 125)) g1 125 #[.int .i64 x.1, .int .i64 x.2.1, .int .i64 x.2.2] := by rw [hg1]; exact Blk.new _ _ _
        have HKN := Lib.hid hkn
        have HBN := Lib.hid hBn
        clear hget hstop hns hok hx hkn hBn
        cases hbad : badOrder x
        · have ok := (OkOrd_iff _).1 hbad
          obtain ⟨o1, o2, o3⟩ := ok
          have i1 := inB_iff.2 o1
          have i2 := inB_iff.2 o2
          have i3 := inB_iff.2 o3
          have HBAD := Lib.hid hbad
          clear hbad
          have gw : IntKind.i64.wrap (needO (l.take k) + x.2.2) = needO (l.take k) + x.2.2 := IntWalk.i64_in _ (by omega)
          go_wp2_with (go_at_call 103; refine (rin_any _ _ _ _).mono ?_; rintro e w' ⟨rfl, rfl⟩)
          rw [← hg1]
          go_loopw [8] (fun i wr => ∃ j : Nat, j ≤ k ∧ i = .int .i64 j ∧ Hid (metO l j x.1 = false) ∧ Blk wr g1 125 #[.int .i64 x.1, .int .i64 x.2.1, .int .i64 x.2.2] ∧ Below w.heap.size w wr) (fun i _ => k - (intOf i).toNat)
          case atStart => exact ⟨0, Nat.zero_le _, rfl, by simp [Hid, metO], HKN.out, HBN.out⟩
          case round =>
            clear hB hsz hbw hg1 c0 c1 c2 i1 i2 i3
            obtain ⟨j, hj, rfl, HM, hkb, hB⟩ := hrel
            have hsz := hB.size
            have u0 := hkb.cell 0
            have u2 := hkb.cell 2
            simp at u0 u2
            by_cases hjt : j < k
            · have hjl : j < l.length := by omega
              obtain ⟨d0, _, _⟩ : (wr.cell? ⟨b, off + j * 3, none⟩ = some (.int .i64 l[j].1)) ∧ (wr.cell? ⟨b, off + j * 3 + 1, none⟩ = some (.int .i64 l[j].2.1)) ∧ (wr.cell? ⟨b, off + j * 3 + 2, none⟩ = some (.int .i64 l[j].2.2)) := by
                obtain ⟨b', off', e', _, d0, d1, d2⟩ := (HA.out.below hB).at3 hjl
                obtain ⟨rfl, rfl⟩ : b = b' ∧ off = off' := by simpa using e'
                exact ⟨d0, d1, d2⟩
              obtain ⟨z, hz⟩ : ∃ z, z = l[j] := ⟨_, rfl⟩
              rw [← hz] at d0
              have HZ := Lib.hid hz
              have HKB := Lib.hid hkb
              clear hz hkb
              by_cases he : z.1 = x.1
              · have t1 : (z.1 == x.1) = true := by simp [he]
                have hm := metO_hit hjt hk (x := x.1) (by rw [← HZ.out]; exact he)
                have hf : sharedE l copies = 10 := by
                  have e1 : errO l k = 10 := by rw [HG.out, HBAD.out, hm]; simp
                  rw [HS.out (by rw [e1]; decide), e1]
                have HF := Lib.hid hf
                clear hm hf he
                go_wp2_with fail
                go_quiet (fail)
                go_wp2_with fail
                go_ret
                exact ⟨ret_int HF.out.symm, below_drewN hB _⟩
              · have t1 : (z.1 == x.1) = false := by simp [he]
                have hm : metO l (j + 1) x.1 = false := by rw [metO_succ hjl, HM.out, ← HZ.out, t1]; rfl
                have HM2 := Lib.hid hm
                clear hm he
                go_wp2_with fail
                go_quiet (fail)
                go_wp2_with fail
                go_roundw
                case rel => exact ⟨j + 1, by omega, by go_num, HM2, HKB.out.drewN _, below_drewN hB _⟩
                case measure => simp [intOf]; omega
            · obtain rfl : j = k := by omega
              have hgo := firstErr_go HE.out (by rw [HG.out, HBAD.out, HM.out]; simp)
              have HGO := Lib.hid hgo
              clear hgo hkb
              go_wp2_with fail
              go_roundw
              case rel => exact ⟨j + 1, by omega, by go_num, int_eq (by rw [HN.out, HX.out]), HGO, hB⟩
              case measure => simp [intOf]; omega
        · have hf : sharedE l copies = 120 := by
            have e1 : errO l k = 120 := by rw [HG.out, hbad]; simp
            rw [HS.out (by rw [e1]; decide), e1]
          have HF := Lib.hid hf
          clear hf HG HS
          cases i1 : inB x.1 0 1000000
          · clear hbad
            go_wp2_with (go_at_call 103; refine (rin_any _ _ _ _).mono ?_; rintro e w' ⟨rfl, rfl⟩)
            go_ret
            exact ⟨ret_int HF.out.symm, HBN.out⟩
          · cases i2 : inB x.2.1 0 10000
            · clear hbad
              go_wp2_with (go_at_call 103; refine (rin_any _ _ _ _).mono ?_; rintro e w' ⟨rfl, rfl⟩)
              go_ret
              exact ⟨ret_int HF.out.symm, HBN.out⟩
            · have i3 : inB x.2.2 0 x.2.1 = false := by simpa [badOrder, i1, i2] using hbad
              clear hbad
              go_wp2_with (go_at_call 103; refine (rin_any _ _ _ _).mono ?_; rintro e w' ⟨rfl, rfl⟩)
              go_ret
              exact ⟨ret_int HF.out.symm, HBN.out⟩
      · obtain rfl : k = l.length := by omega
        have hfin := HR2.out HE.out
        rw [List.take_length] at *
        by_cases hc : copies < 0
        · have t1 : decide (copies < 0) = true := decide_eq_true hc
          rw [if_pos hc] at hfin
          have HF := Lib.hid hfin
          clear hfin hc
          go_wp2_with fail
          go_ret
          exact ⟨ret_int HF.out.symm, hB⟩
        · have t1 : decide (copies < 0) = false := decide_eq_false hc
          rw [if_neg hc] at hfin
          by_cases hn : copies < needO l
          · have t2 : decide (copies < needO l) = true := decide_eq_true hn
            rw [if_pos hn] at hfin
            have HF := Lib.hid hfin
            clear hfin hc hn
            go_wp2_with fail
            go_ret
            exact ⟨ret_int HF.out.symm, hB⟩
          · have t2 : decide (copies < needO l) = false := decide_eq_false hn
            rw [if_neg hn] at hfin
            have HF := Lib.hid hfin
            clear hfin hc hn
            go_wp2_with fail
            go_ret
            exact ⟨ret_int HF.out.symm, hB⟩
end Go.Proofs.Ytgopdfbmddkpfaa
