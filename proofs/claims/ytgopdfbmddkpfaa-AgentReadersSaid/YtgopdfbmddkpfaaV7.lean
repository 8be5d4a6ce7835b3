/- Contract of the reference's copies; conditions: none. -/
import Derived.Test.YtgopdfbmddkpfaaV1
import Derived.Deep.RegionHeld3
import Derived.Deep.DeepCutAuto
import Derived.Deep.DeepMust
set_option linter.unusedSimpArgs false
set_option linter.unusedVariables false
namespace Go.Proofs.Ytgopdfbmddkpfaa
open Go.RowKit Go.Fh Go.Ag
theorem pow_half (d : Int) (k : Nat) : d / 2 ^ k / 2 = d / 2 ^ (k + 1) := by
  rw [Int.ediv_ediv_of_nonneg (Int.pow_nonneg (by decide)), ← Int.pow_succ]

set_option maxRecDepth 20000 in
set_option maxHeartbeats 2000000 in
theorem rgets_any (s : SubD) (A : Option Addr) (c : Nat) (day : Int) (w : World) (h3 : 1 ≤ s.days) (h4 : s.days ≤ 127) (hd0 : 0 ≤ day) (hl : s.hol.length ≤ 9223372036854775807) (hA : Sl enc2 2 w w.heap.size A s.hol) :
    Calls Try.prog 121 #[.agg #[.int .i64 s.id, .int .i64 s.lo, .int .i64 s.hi, .int .i64 s.days, .slice A s.hol.length c], .int .i64 day] w fun e w' => e = .returned (.bool (getsB s day)) ∧ Below w.heap.size w w' := by
  have hb0 : Below w.heap.size w (w.alloc (.cells #[.int .i64 s.id, .int .i64 s.lo, .int .i64 s.hi, .int .i64 s.days, .slice A s.hol.length c] 161)) := (Below.refl _ _).alloc (Nat.le_refl _) _
  have HA := Lib.hid ((hA.below hb0).mono hb0.size)
  have hgb : getsB s day = (inB day s.lo s.hi && (bitB s.days day && !s.hol.any (inHol day))) := rfl
  have HG := Lib.hid hgb
  clear hA hgb
  by_cases q1 : day < s.lo
  · have t1 : decide (day < s.lo) = true := decide_eq_true q1
    have hr : getsB s day = false := getsB_out (.inl q1)
    have HR := Lib.hid hr
    clear hr q1
    go_enter Try.func121, Try.ntmps121
    go_wp2_with fail
    go_ret
    exact ⟨ret_bool HR.out.symm, hb0⟩
  · have t1 : decide (day < s.lo) = false := decide_eq_false q1
    by_cases q2 : s.hi < day
    · have t2 : decide (s.hi < day) = true := decide_eq_true q2
      have hr : getsB s day = false := getsB_out (.inr q2)
      have HR := Lib.hid hr
      clear hr q1 q2
      go_enter Try.func121, Try.ntmps121
      go_wp2_with fail
      go_ret
      exact ⟨ret_bool HR.out.symm, hb0⟩
    · have t2 : decide (s.hi < day) = false := decide_eq_false q2
      have hin : inB day s.lo s.hi = true := inB_iff.2 (by omega)
      have HIN := Lib.hid hin
      obtain ⟨g, hg⟩ : ∃ g, g = w.heap.size := ⟨_, rfl⟩
      obtain ⟨w0, hw0⟩ : ∃ w0, w0 = w.alloc (.cells #[.int .i64 s.id, .int .i64 s.lo, .int .i64 s.hi, .int .i64 s.days, .slice A s.hol.length c] 161) := ⟨_, rfl⟩
      have hk0 : Blk w0 g 161 #[.int .i64 s.id, .int .i64 s.lo, .int .i64 s.hi, .int .i64 s.days, .slice A s.hol.length c] := by rw [hw0, hg]; exact Blk.new _ _ _
      have u0 := hk0.cell 0
      have u1 := hk0.cell 1
      have u2 := hk0.cell 2
      have u3 := hk0.cell 3
      have u4 := hk0.cell 4
      simp at u0 u1 u2 u3 u4
      rw [← hw0] at hb0 HA
      have HW0 := Lib.hid hw0
      have HGG := Lib.hid hg
      clear hin q1 q2 hk0 hw0
      go_enter Try.func121, Try.ntmps121
      go_upto_region 1 with fail
      rw [← HW0.out, ← HGG.out]
      clear hg
      go_wp2_with fail
      go_loopw [5] (fun i wr => ∃ k : Nat, k ≤ s.hol.length ∧ i = .int .i64 k ∧ Hid (∀ j (hj : j < s.hol.length), j < k → inHol day s.hol[j] = false) ∧ w0 = wr) (fun i _ => s.hol.length - (intOf i).toNat)
      case atStart => exact ⟨0, Nat.zero_le _, rfl, fun j _ hj => by omega, rfl⟩
      case round =>
        obtain ⟨k, hk, rfl, HN, rfl⟩ := hrel
        by_cases hlt : k < s.hol.length
        · obtain ⟨b, off, hAe, hb, c0, c1⟩ := HA.out.at2 hlt
          obtain ⟨x, hx⟩ : ∃ x, x = s.hol[k] := ⟨_, rfl⟩
          rw [← hx] at c0 c1
          subst hAe
          have HX := Lib.hid hx
          clear hx
          cases hi : inHol day x
          · have hor : decide (x.1 ≤ day) = false ∨ (decide (x.1 ≤ day) = true ∧ decide (day ≤ x.2) = false) := by
              simp only [inHol, inB, decide_eq_false_iff_not] at hi
              by_cases h : x.1 ≤ day
              · right; exact ⟨decide_eq_true h, decide_eq_false (fun h2 => hi ⟨h, h2⟩)⟩
              · left; exact decide_eq_false h
            have HI := Lib.hid hi
            clear hi
            rcases hor with t3 | ⟨t3, t4⟩
            all_goals
              go_wp2_with fail
              go_roundw
              case rel =>
                refine ⟨k + 1, by omega, by go_num, ?_, by first | trivial | rfl⟩
                intro j hj hjk
                by_cases e : j = k
                · subst e; rw [← HX.out]; exact HI.out
                · exact HN.out j hj (by omega)
              case measure => simp [intOf]; omega
          · have hor : decide (x.1 ≤ day) = true ∧ decide (day ≤ x.2) = true := by
              simp only [inHol, inB, decide_eq_true_eq] at hi
              exact ⟨decide_eq_true hi.1, decide_eq_true hi.2⟩
            obtain ⟨t3, t4⟩ := hor
            have hany : s.hol.any (inHol day) = true := List.any_eq_true.2 ⟨x, by rw [HX.out]; exact List.getElem_mem _, hi⟩
            have hr : getsB s day = false := by rw [HG.out, hany]; simp
            have HR := Lib.hid hr
            clear hi hany hr
            go_wp2_with fail
            go_ret
            exact ⟨ret_bool HR.out.symm, hb0⟩
        · obtain rfl : k = s.hol.length := by omega
          have hany : s.hol.any (inHol day) = false := by
            rw [List.any_eq_false]
            intro x hx
            obtain ⟨j, hj, rfl⟩ := List.mem_iff_getElem.1 hx
            simp [HN.out j hj hj]
          have hr : getsB s day = bitB s.days day := by rw [HG.out, hany, HIN.out]; simp
          have HR := Lib.hid hr
          have p1 : 0 ≤ day % 7 := by omega
          have p2 : day % 7 < 7 := by omega
          clear hany hr
          go_wp2_with fail
          go_loopw [6, 7] (fun v i wr => ∃ k : Nat, (k : Int) ≤ day % 7 ∧ i = .int .i64 k ∧ v = .int .i64 (s.days / 2 ^ k) ∧ w0 = wr) (fun _ i _ => 7 - (intOf i).toNat)
          case atStart => exact ⟨0, by omega, rfl, int_eq (by simp), rfl⟩
          case round =>
            obtain ⟨k, hk, rfl, rfl, rfl⟩ := hrel
            have hsb := shift_bd s.days k h3 h4
            have hph := pow_half s.days k
            have HPH := Lib.hid hph
            clear hph
            generalize hq : s.days / 2 ^ k = q at *
            have HQ := Lib.hid hq
            obtain ⟨q0, q1⟩ := hsb
            clear hq
            by_cases hlt : (k : Int) < day % 7
            · have t5 : decide ((k : Int) < day % 7) = true := decide_eq_true hlt
              go_wp2_with fail
              go_roundw
              case rel => exact ⟨k + 1, by omega, by go_num, int_eq HPH.out, by first | trivial | rfl⟩
              case measure => simp [intOf]; omega
            · have t5 : decide ((k : Int) < day % 7) = false := decide_eq_false hlt
              have hkd : (day % 7).toNat = k := by omega
              have hfin : bitB s.days day = decide (q % 2 = 1) := by unfold bitB; rw [hkd, HQ.out]
              have HFIN := Lib.hid hfin
              clear hkd hfin
              go_wp2_with fail
              go_ret
              exact ⟨ret_bool (by rw [HR.out, HFIN.out]; rfl), hb0⟩
end Go.Proofs.Ytgopdfbmddkpfaa
namespace Go.Proofs.Ytgopdfbmddkpfaa
open Go.RowKit Go.Fh Go.Ag
set_option maxRecDepth 20000 in
set_option maxHeartbeats 2000000 in
theorem rcopies_any (s : SubD) (A : Option Addr) (c : Nat) (a b : Int) (w : World) (hs : OkS s) (ha : 0 ≤ a) (hab : a ≤ b) (hb2 : b ≤ 20000) (hA : Sl enc2 2 w w.heap.size A s.hol) :
    Calls Try.prog 122 #[.agg #[.int .i64 s.id, .int .i64 s.lo, .int .i64 s.hi, .int .i64 s.days, .slice A s.hol.length c], .int .i64 a, .int .i64 b] w fun e w' => e = .returned (.int .i64 (copiesB s a b)) ∧ Below w.heap.size w w' := by
  have hb0 : Below w.heap.size w (w.alloc (.cells #[.int .i64 s.id, .int .i64 s.lo, .int .i64 s.hi, .int .i64 s.days, .slice A s.hol.length c] 161)) := (Below.refl _ _).alloc (Nat.le_refl _) _
  have hk0 := Blk.new w 161 #[.int .i64 s.id, .int .i64 s.lo, .int .i64 s.hi, .int .i64 s.days, .slice A s.hol.length c]
  have HA := Lib.hid hA
  have HK0 := Lib.hid hk0
  have HB0 := Lib.hid hb0
  have hfin := copiesB_count s a b
  have HFIN := Lib.hid hfin
  have h20 := hs.2.2.2.2.1
  have HG := Lib.hid (fun day W (hd : 0 ≤ day) hW => rgets_any s A c day W hs.2.2.2.1.1 hs.2.2.2.1.2 hd (by omega) hW)
  clear hA hk0 hb0 hfin hs
  go_enter Try.func122, Try.ntmps122
  go_wp2_with fail
  go_loopw [7, 8] (fun n i wr => ∃ k : Nat, k ≤ (b + 1 - a).toNat ∧ i = .int .i64 (a + k) ∧ n = .int .i64 (copiesN s a k) ∧ Below (w.alloc (.cells #[.int .i64 s.id, .int .i64 s.lo, .int .i64 s.hi, .int .i64 s.days, .slice A s.hol.length c] 161)).heap.size (w.alloc (.cells #[.int .i64 s.id, .int .i64 s.lo, .int .i64 s.hi, .int .i64 s.days, .slice A s.hol.length c] 161)) wr) (fun _ i _ => (b + 1 - intOf i).toNat)
  case atStart => exact ⟨0, Nat.zero_le _, int_eq (by simp), rfl, Below.refl _ _⟩
  case round =>
    obtain ⟨k, hk, rfl, rfl, hW⟩ := hrel
    have hbr := HB0.out.trans (hW.mono HB0.out.size)
    have kb := HK0.out.below hW (by simp)
    have u0 := kb.cell 0
    have u1 := kb.cell 1
    have u2 := kb.cell 2
    have u3 := kb.cell 3
    have u4 := kb.cell 4
    simp at u0 u1 u2 u3 u4
    have hbd := copiesN_bd s a k
    have hcs : copiesN s a (k + 1) = copiesN s a k + if getsB s (a + k) then 1 else 0 := rfl
    have HCS := Lib.hid hcs
    have HBR := Lib.hid hbr
    have hga := HG.out (a + k) wr (by omega) ((HA.out.below hbr).mono hbr.size)
    have HGA := Lib.hid hga
    have hak : ((k + 1 : Nat) : Int) = (k : Int) + 1 := by omega
    clear kb hcs hga hbr
    obtain ⟨ck, hck⟩ : ∃ ck, ck = copiesN s a k := ⟨_, rfl⟩
    rw [← hck] at hbd HCS ⊢
    have HCK := Lib.hid hck
    clear hck
    by_cases hlt : a + k ≤ b
    · have t1 : decide (a + (k : Int) ≤ b) = true := decide_eq_true hlt
      have f1 := IntWalk.i64_in (ck + 1) (by omega)
      have f2 := IntWalk.i64_in (a + k + 1) (by omega)
      cases hg : getsB s (a + k)
      all_goals
        rw [hg] at HGA HCS
        go_wp2_with fail
        refine HGA.out.mono ?_
        rintro e w2 ⟨rfl, hb2'⟩
        have HW2 := Lib.hid (hW.trans (hb2'.mono hW.size))
        clear hb2'
        go_wp2_with fail
        go_roundw
        case rel => exact ⟨k + 1, by omega, int_eq (by omega), int_eq (by rw [HCS.out]; simp), HW2.out⟩
        case measure => simp [intOf]; omega
    · have t1 : decide (a + (k : Int) ≤ b) = false := decide_eq_false hlt
      have hkk : k = (b + 1 - a).toNat := by omega
      have hre : copiesB s a b = ck := by rw [HFIN.out, HCK.out, hkk]
      have HRE := Lib.hid hre
      clear hre hkk
      go_wp2_with fail
      go_ret
      exact ⟨ret_int HRE.out.symm, HBR.out⟩
end Go.Proofs.Ytgopdfbmddkpfaa
