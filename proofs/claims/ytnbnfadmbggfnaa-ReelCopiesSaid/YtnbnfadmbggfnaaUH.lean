/- Contract of small; conditions: a press in memory. -/
import Derived.Test.YtnbnfadmbggfnaaUG
set_option linter.unusedSimpArgs false
set_option linter.unusedVariables false
namespace Go.Proofs.Ytnbnfadmbggfnaa
open Go.RowKit Go.Fh Go.Rl
set_option maxRecDepth 20000 in
set_option maxHeartbeats 4000000 in
theorem small_any (p : PrsD) (A : Option Addr) (c m : Nat) (ms : List WebM) (w : World) (hT : PrsAt w w.heap.size p A ms) (hm : m = ms.length) (hm9 : m ≤ 9223372036854775807) :
    Calls Try.prog 28 #[.agg #[.int .i64 p.cut, .int .i64 p.margin, .slice A m c]] w fun e w' => ∃ b, e = .returned (.bool b) ∧ Hid (b = true → p.webs.length ≤ 8 ∧ ∀ v ∈ p.webs, v.reels.length ≤ 30) ∧ Hid (Below w.heap.size w w') := by
  obtain ⟨w1, gT, HW1, HGT, HB1, HTP, HTC⟩ := mp_box 26 p w A c ms w hT m hm
  obtain ⟨r0, r1, r2⟩ := HTC.out w1 (Below.refl _ _)
  have hml : m = p.webs.length := by rw [hm, hT.len]
  by_cases h8 : 8 < m
  · have t1 : decide ((m : Int) > 8) = true := by simp; omega
    have t2 : decide ((8 : Int) < (m : Int)) = true := by simp; omega
    have t3 : decide (8 < m) = true := by simp; omega
    clear hT hm hml h8
    go_enter Try.func28, Try.ntmps28
    go_upto_region 1 with fail
    rw [← HW1.out, ← HGT.out]
    go_wp2_with fail
    go_ret
    exact ⟨false, rfl, Lib.hid (fun h => by cases h), HB1⟩
  · have t1 : decide ((m : Int) > 8) = false := by simp; omega
    have t2 : decide ((8 : Int) < (m : Int)) = false := by simp; omega
    have t3 : decide (8 < m) = false := by simp; omega
    obtain ⟨z, hz⟩ : ∃ z, z = p.webs.any (fun v => decide (30 < v.reels.length)) := ⟨_, rfl⟩
    have H64 := Lib.hid (show ∀ W, Below w1.heap.size w1 W → Calls Try.prog 64 #[.slice A m c, .func (.func 65) #[] #[]] W fun e w' => e = .returned (.bool z) ∧ Hid (Below W.heap.size W w') from fun W hb => by rw [hz]; exact many30_any A c m ms p W (HTP.out W hb) hm (by omega))
    have hm8 : m ≤ 8 := by omega
    cases z
    · have HOK := Lib.hid (show p.webs.length ≤ 8 ∧ ∀ v ∈ p.webs, v.reels.length ≤ 30 from ⟨by omega, fun v hv => by
        have := List.any_eq_false.1 hz.symm v hv
        simpa using this⟩)
      have HM := Lib.hid hm
      have HML := Lib.hid hml
      clear hT hm hml h8 hz
      go_enter Try.func28, Try.ntmps28
      go_upto_region 1 with fail
      rw [← HW1.out, ← HGT.out]
      go_upto_region 3 with (go_at_call 64; with_reducible refine (H64.out _ (Below.refl _ _)).mono ?_; rintro e w2 ⟨rfl, HB2⟩)
      clear r0 r1 r2
      obtain ⟨r0, r1, r2⟩ := HTC.out w2 HB2.out
      go_wp2_with fail
      clear r0 r1 r2
      go_loopw [3, 21] (fun u3 u wr => ∃ (k : Nat) (x : Int), k ≤ m ∧ u = .int .i64 (k : Int) ∧ u3 = .int .i64 x ∧ Hid (Below w1.heap.size w1 wr)) (fun _ u _ => m - (intOf u).toNat)
      case atStart => exact ⟨0, 1152921504606846976, Nat.zero_le _, rfl, rfl, HB2⟩
      case round =>
        obtain ⟨k, x, hk, rfl, rfl, HB⟩ := hrel
        by_cases hlt : k < m
        · have hkp : k < p.webs.length := by have := HML.out; omega
          obtain ⟨v, vA, vc, b, off, HV, HR, hba, HC⟩ := web_box HTP.out (by have := HM.out; omega) hkp
          obtain ⟨c0, c1, c2, c3⟩ := HC.out _ HB.out
          subst hba
          have h30 := HOK.out.2 v (by rw [HV.out]; exact List.getElem_mem hkp)
          obtain ⟨nv, hnv⟩ : ∃ n, n = v.reels.length := ⟨_, rfl⟩
          rw [← hnv] at c0 h30
          have HN := Lib.hid hnv
          obtain ⟨w5, g5, HW5, HG5, hb5, HK5⟩ := wv_box 41 v vA nv vc wr
          have HB5 := Lib.hid (bstep HB.out hb5.out)
          obtain ⟨y0, y1, y2, y3⟩ := wv_cells HK5.out
          have i0 : (0 : Int) ≤ (k : Int) := by omega
          have i1 : (k : Int) < (m : Int) := by omega
          clear hnv hb5
          go_upto_region 7 with fail
          rw [← HW5.out, ← HG5.out]
          clear c0 c1 c2 c3
          go_wp2_with fail
          clear y0 y1 y2 y3
          go_loopw [6, 28] (fun u6 u wq => ∃ (j : Nat) (y : Int), j ≤ nv ∧ u = .int .i64 (j : Int) ∧ u6 = .int .i64 y ∧ (0 ≤ y ∧ y ≤ 20000000 * (j : Int)) ∧ Hid (Below w1.heap.size w1 wq)) (fun _ u _ => nv - (intOf u).toNat)
          case atStart => exact ⟨0, 0, Nat.zero_le _, rfl, rfl, ⟨by omega, by omega⟩, HB5⟩
          case round =>
            obtain ⟨j, y, hj, rfl, rfl, hy, HBQ⟩ := hrel
            by_cases hltj : j < nv
            · have hjl : j < v.reels.length := by have := HN.out; omega
              obtain ⟨b, off, hba, hbb, c0, c1, c2, c3⟩ := reel_at (HR.out _ HBQ.out) hjl
              obtain ⟨r, hr⟩ : ∃ r, r = v.reels[j] := ⟨_, rfl⟩
              rw [← hr] at c0 c1 c2 c3
              subst hba
              obtain ⟨g8, hg8⟩ : ∃ g, g = wr.heap.size := ⟨_, rfl⟩
              obtain ⟨w7, hw7⟩ : ∃ W, W = wr.alloc (.cells #[.int .i64 r.id, .int .i64 r.width, .int .i64 r.len, .int .i64 r.core] 54) := ⟨_, rfl⟩
              have k8 : Blk w7 g8 54 #[.int .i64 r.id, .int .i64 r.width, .int .i64 r.len, .int .i64 r.core] := by rw [hw7, hg8]; exact Blk.new _ _ _
              have HB7 := Lib.hid (show Below w1.heap.size w1 w7 from by rw [hw7]; exact balR HBQ.out _)
              have z2 := k8.cell 2
              have z3 := k8.cell 3
              simp at z2 z3
              have HW7 := Lib.hid hw7
              have HG8 := Lib.hid hg8
              have j0 : (0 : Int) ≤ (j : Int) := by omega
              have j1 : (j : Int) < (nv : Int) := by omega
              clear hr hbb hg8 hw7 k8
              go_upto_region 11 with fail
              rw [← HW7.out, ← HG8.out]
              clear c0 c1 c2 c3
              by_cases q1 : r.len < 0
              · have e1 : decide (r.len < 0) = true := by simpa using q1
                go_wp2_with fail
                go_ret
                first | exact ⟨true, rfl, Lib.hid (fun _ => HOK.out), Lib.hid (HB1.out.trans (HB7.out.mono HB1.out.size))⟩ | exact .inr ⟨rfl, Lib.hid (HB1.out.trans (HB7.out.mono HB1.out.size))⟩ | exact .inl ⟨rfl, Lib.hid (HB1.out.trans (HB7.out.mono HB1.out.size))⟩ | exact .inr ⟨rfl, Lib.hid (fun _ => HOK.out), Lib.hid (HB1.out.trans (HB7.out.mono HB1.out.size))⟩ | exact .inl ⟨rfl, Lib.hid (fun _ => HOK.out), Lib.hid (HB1.out.trans (HB7.out.mono HB1.out.size))⟩
              by_cases q2 : 20000000 < r.len
              · have e1 : decide (r.len < 0) = false := by simpa using q1
                have e2 : decide (r.len > 20000000) = true := by simpa using q2
                have e2' : decide (20000000 < r.len) = true := by simpa using q2
                go_wp2_with fail
                go_ret
                first | exact ⟨true, rfl, Lib.hid (fun _ => HOK.out), Lib.hid (HB1.out.trans (HB7.out.mono HB1.out.size))⟩ | exact .inr ⟨rfl, Lib.hid (HB1.out.trans (HB7.out.mono HB1.out.size))⟩ | exact .inl ⟨rfl, Lib.hid (HB1.out.trans (HB7.out.mono HB1.out.size))⟩ | exact .inr ⟨rfl, Lib.hid (fun _ => HOK.out), Lib.hid (HB1.out.trans (HB7.out.mono HB1.out.size))⟩ | exact .inl ⟨rfl, Lib.hid (fun _ => HOK.out), Lib.hid (HB1.out.trans (HB7.out.mono HB1.out.size))⟩
              by_cases q3 : r.core < 0
              · have e1 : decide (r.len < 0) = false := by simpa using q1
                have e2 : decide (r.len > 20000000) = false := by simpa using q2
                have e2' : decide (20000000 < r.len) = false := by simpa using q2
                have e3 : decide (r.core < 0) = true := by simpa using q3
                go_wp2_with fail
                go_ret
                first | exact ⟨true, rfl, Lib.hid (fun _ => HOK.out), Lib.hid (HB1.out.trans (HB7.out.mono HB1.out.size))⟩ | exact .inr ⟨rfl, Lib.hid (HB1.out.trans (HB7.out.mono HB1.out.size))⟩ | exact .inl ⟨rfl, Lib.hid (HB1.out.trans (HB7.out.mono HB1.out.size))⟩ | exact .inr ⟨rfl, Lib.hid (fun _ => HOK.out), Lib.hid (HB1.out.trans (HB7.out.mono HB1.out.size))⟩ | exact .inl ⟨rfl, Lib.hid (fun _ => HOK.out), Lib.hid (HB1.out.trans (HB7.out.mono HB1.out.size))⟩
              by_cases q4 : r.len < r.core
              · have e1 : decide (r.len < 0) = false := by simpa using q1
                have e2 : decide (r.len > 20000000) = false := by simpa using q2
                have e2' : decide (20000000 < r.len) = false := by simpa using q2
                have e3 : decide (r.core < 0) = false := by simpa using q3
                have e4 : decide (r.core > r.len) = true := by simpa using q4
                have e4' : decide (r.len < r.core) = true := by simpa using q4
                go_wp2_with fail
                go_ret
                first | exact ⟨true, rfl, Lib.hid (fun _ => HOK.out), Lib.hid (HB1.out.trans (HB7.out.mono HB1.out.size))⟩ | exact .inr ⟨rfl, Lib.hid (HB1.out.trans (HB7.out.mono HB1.out.size))⟩ | exact .inl ⟨rfl, Lib.hid (HB1.out.trans (HB7.out.mono HB1.out.size))⟩ | exact .inr ⟨rfl, Lib.hid (fun _ => HOK.out), Lib.hid (HB1.out.trans (HB7.out.mono HB1.out.size))⟩ | exact .inl ⟨rfl, Lib.hid (fun _ => HOK.out), Lib.hid (HB1.out.trans (HB7.out.mono HB1.out.size))⟩
              · have e1 : decide (r.len < 0) = false := by simpa using q1
                have e2 : decide (r.len > 20000000) = false := by simpa using q2
                have e2' : decide (20000000 < r.len) = false := by simpa using q2
                have e3 : decide (r.core < 0) = false := by simpa using q3
                have e4 : decide (r.core > r.len) = false := by simpa using q4
                have e4' : decide (r.len < r.core) = false := by simpa using q4
                have s1 : IntKind.i64.wrap (r.len - r.core) = r.len - r.core := by rw [IntKind.wrap_i64]; omega
                have s2 : IntKind.i64.wrap (y + (r.len - r.core)) = y + (r.len - r.core) := by rw [IntKind.wrap_i64]; omega
                have HY := Lib.hid (show 0 ≤ y + (r.len - r.core) ∧ y + (r.len - r.core) ≤ 20000000 * ((j + 1 : Nat) : Int) from by omega)
                go_wp2_with fail
                go_roundw
                case rel => exact ⟨j + 1, y + (r.len - r.core), by omega, by go_num, rfl, HY.out, HB7⟩
                case measure => simp [intOf]; omega
            · obtain rfl : j = nv := by omega
              go_wp2_with fail
              go_roundw
              case rel => exact ⟨k + 1, min x y, by omega, by go_num, rfl, HBQ⟩
              case measure => simp [intOf]; omega
        · obtain rfl : k = m := by omega
          obtain ⟨r0, r1, r2⟩ := HTC.out wr HB.out
          by_cases q1 : x ≤ 600000
          · have e1 : decide (x ≤ 600000) = true := by simpa using q1
            go_wp2_with fail
            go_ret
            first | exact ⟨true, rfl, Lib.hid (fun _ => HOK.out), Lib.hid (HB1.out.trans (HB.out.mono HB1.out.size))⟩ | exact .inr ⟨rfl, Lib.hid (HB1.out.trans (HB.out.mono HB1.out.size))⟩ | exact .inl ⟨rfl, Lib.hid (HB1.out.trans (HB.out.mono HB1.out.size))⟩ | exact .inr ⟨rfl, Lib.hid (fun _ => HOK.out), Lib.hid (HB1.out.trans (HB.out.mono HB1.out.size))⟩ | exact .inl ⟨rfl, Lib.hid (fun _ => HOK.out), Lib.hid (HB1.out.trans (HB.out.mono HB1.out.size))⟩
          by_cases q2 : p.cut < 300
          · have e1 : decide (x ≤ 600000) = false := by simpa using q1
            have e2 : decide (p.cut < 300) = true := by simpa using q2
            go_wp2_with fail
            go_ret
            first | exact ⟨true, rfl, Lib.hid (fun _ => HOK.out), Lib.hid (HB1.out.trans (HB.out.mono HB1.out.size))⟩ | exact .inr ⟨rfl, Lib.hid (HB1.out.trans (HB.out.mono HB1.out.size))⟩ | exact .inl ⟨rfl, Lib.hid (HB1.out.trans (HB.out.mono HB1.out.size))⟩ | exact .inr ⟨rfl, Lib.hid (fun _ => HOK.out), Lib.hid (HB1.out.trans (HB.out.mono HB1.out.size))⟩ | exact .inl ⟨rfl, Lib.hid (fun _ => HOK.out), Lib.hid (HB1.out.trans (HB.out.mono HB1.out.size))⟩
          by_cases q3 : 1500 < p.cut
          · have e1 : decide (x ≤ 600000) = false := by simpa using q1
            have e2 : decide (p.cut < 300) = false := by simpa using q2
            have e3 : decide (p.cut > 1500) = true := by simpa using q3
            have e3' : decide (1500 < p.cut) = true := by simpa using q3
            go_wp2_with fail
            go_ret
            first | exact ⟨true, rfl, Lib.hid (fun _ => HOK.out), Lib.hid (HB1.out.trans (HB.out.mono HB1.out.size))⟩ | exact .inr ⟨rfl, Lib.hid (HB1.out.trans (HB.out.mono HB1.out.size))⟩ | exact .inl ⟨rfl, Lib.hid (HB1.out.trans (HB.out.mono HB1.out.size))⟩ | exact .inr ⟨rfl, Lib.hid (fun _ => HOK.out), Lib.hid (HB1.out.trans (HB.out.mono HB1.out.size))⟩ | exact .inl ⟨rfl, Lib.hid (fun _ => HOK.out), Lib.hid (HB1.out.trans (HB.out.mono HB1.out.size))⟩
          · have e1 : decide (x ≤ 600000) = false := by simpa using q1
            have e2 : decide (p.cut < 300) = false := by simpa using q2
            have e3 : decide (p.cut > 1500) = false := by simpa using q3
            have e3' : decide (1500 < p.cut) = false := by simpa using q3
            go_wp2_with fail
            go_ret
            refine .inl ⟨rfl, ?_⟩; first | exact Lib.hid (HB1.out.trans (HB.out.mono HB1.out.size)) | exact ⟨trivial, Lib.hid (HB1.out.trans (HB.out.mono HB1.out.size))⟩ | exact ⟨Lib.hid trivial, Lib.hid (HB1.out.trans (HB.out.mono HB1.out.size))⟩ | exact ⟨Lib.hid (fun h => by cases h), Lib.hid (HB1.out.trans (HB.out.mono HB1.out.size))⟩
    · clear hT hm hml h8 hz
      go_enter Try.func28, Try.ntmps28
      go_upto_region 1 with fail
      rw [← HW1.out, ← HGT.out]
      go_wp2_with (go_at_call 64; with_reducible refine (H64.out _ (Below.refl _ _)).mono ?_; rintro e w2 ⟨rfl, HB2⟩)
      go_ret
      exact ⟨false, rfl, Lib.hid (fun h => by cases h), Lib.hid (HB1.out.trans (HB2.out.mono HB1.out.size))⟩
end Go.Proofs.Ytnbnfadmbggfnaa
