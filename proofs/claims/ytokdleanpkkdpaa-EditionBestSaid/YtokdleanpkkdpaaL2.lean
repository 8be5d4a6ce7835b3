/- Contract of kept; conditions: two titles of the same content in memory. Printed by a program. -/
import Derived.Test.YtokdleanpkkdpaaU7
import Derived.Test.YtokdleanpkkdpaaU8
set_option linter.unusedSimpArgs false
set_option linter.unusedVariables false
namespace Go.Proofs.Ytokdleanpkkdpaa
open Go.RowKit Go.Fh Go.Ed
set_option maxRecDepth 20000 in
set_option maxHeartbeats 2000000 in
theorem clo50_any (s : SloD) (w : World) :
    Calls Try.prog 50 #[.agg #[.int .i64 s.edition, .int .i64 s.plates, .int .i64 s.beg, .int .i64 s.fin], .agg #[.int .i64 s.edition, .int .i64 s.plates, .int .i64 s.beg, .int .i64 s.fin]] w fun e w' => e = .returned (.bool true) ∧ Below w.heap.size w w' := by
  have hb0 : Below w.heap.size w ((w.alloc (.cells #[.int .i64 s.edition, .int .i64 s.plates, .int .i64 s.beg, .int .i64 s.fin] 63)).alloc (.cells #[.int .i64 s.edition, .int .i64 s.plates, .int .i64 s.beg, .int .i64 s.fin] 106)) := balR (balR (Below.refl _ _) _) _
  have HB := Lib.hid hb0
  clear hb0
  go_enter Try.func50, Try.ntmps50
  go_wp2_with fail
  go_ret
  exact ⟨rfl, HB.out⟩
set_option maxRecDepth 20000 in
set_option maxHeartbeats 2000000 in
theorem clo58_any (p : Int × Int × Int) (w : World) :
    Calls Try.prog 58 #[.agg #[.int .i64 p.1, .int .i64 p.2.1, .int .i64 p.2.2], .agg #[.int .i64 p.1, .int .i64 p.2.1, .int .i64 p.2.2]] w fun e w' => e = .returned (.bool true) ∧ Below w.heap.size w w' := by
  have hb0 : Below w.heap.size w ((w.alloc (.cells #[.int .i64 p.1, .int .i64 p.2.1, .int .i64 p.2.2] 45)).alloc (.cells #[.int .i64 p.1, .int .i64 p.2.1, .int .i64 p.2.2] 117)) := balR (balR (Below.refl _ _) _) _
  have HB := Lib.hid hb0
  clear hb0
  go_enter Try.func58, Try.ntmps58
  go_wp2_with fail
  go_ret
  exact ⟨rfl, HB.out⟩
set_option maxRecDepth 20000 in
set_option maxHeartbeats 2000000 in
theorem clo101_any (z : ZonD) (a1 a2 : Option Addr) (c1 c2 : Nat) (w : World) (hl : z.variants.length ≤ 1000000000) (h1 : Sl encInt 1 w w.heap.size a1 z.variants) (h2 : Sl encInt 1 w w.heap.size a2 z.variants) :
    Calls Try.prog 101 #[.agg #[.int .i64 z.copies, .int .i64 z.due, .slice a1 z.variants.length c1], .agg #[.int .i64 z.copies, .int .i64 z.due, .slice a2 z.variants.length c2]] w fun e w' => e = .returned (.bool true) ∧ Below w.heap.size w w' := by
  have hb0 : Below w.heap.size w ((w.alloc (.cells #[.int .i64 z.copies, .int .i64 z.due, .slice a1 z.variants.length c1] 47)).alloc (.cells #[.int .i64 z.copies, .int .i64 z.due, .slice a2 z.variants.length c2] 47)) := balR (balR (Below.refl _ _) _) _
  have HB := Lib.hid hb0
  have HEQ := Lib.hid (fun W (hb : Below w.heap.size w W) => show Calls Try.prog 19 #[.slice a1 z.variants.length c1, .slice a2 z.variants.length c2] W fun e w' => e = .returned (.bool true) ∧ Below W.heap.size W w' from by
    have := equalInts_any a1 a2 c1 c2 z.variants z.variants W (by omega) (by omega) ((h1.below hb).mono hb.size) ((h2.below hb).mono hb.size)
    simpa using this)
  clear h1 h2
  clear hb0
  go_enter Try.func101, Try.ntmps101
  go_wp2_with (go_at_call 19; refine (HEQ.out _ HB.out).mono ?_; rintro e w3 ⟨rfl, hb3⟩; have HB3 := Lib.hid (HB.out.trans (hb3.mono HB.out.size)); clear hb3)
  go_ret
  exact ⟨rfl, HB3.out⟩
set_option maxRecDepth 20000 in
set_option maxHeartbeats 2000000 in
theorem clo45_any (e : EdD) (y u : EA) (w : World) (hl : e.zones.length ≤ 1000000000) (hl2 : e.variants.length ≤ 1000000000) (h1 : Sl encInt 1 w w.heap.size y.z e.zones) (h2 : Sl encInt 1 w w.heap.size u.z e.zones) (h3 : Sl encInt 1 w w.heap.size y.v e.variants) (h4 : Sl encInt 1 w w.heap.size u.v e.variants) :
    Calls Try.prog 45 #[.agg #[.slice y.z e.zones.length y.cz, .int .i64 e.copies, .int .i64 e.ready, .int .i64 e.due, .slice y.v e.variants.length y.cv], .agg #[.slice u.z e.zones.length u.cz, .int .i64 e.copies, .int .i64 e.ready, .int .i64 e.due, .slice u.v e.variants.length u.cv]] w fun e w' => e = .returned (.bool true) ∧ Below w.heap.size w w' := by
  have hb0 : Below w.heap.size w ((w.alloc (.cells #[.slice y.z e.zones.length y.cz, .int .i64 e.copies, .int .i64 e.ready, .int .i64 e.due, .slice y.v e.variants.length y.cv] 52)).alloc (.cells #[.slice u.z e.zones.length u.cz, .int .i64 e.copies, .int .i64 e.ready, .int .i64 e.due, .slice u.v e.variants.length u.cv] 98)) := balR (balR (Below.refl _ _) _) _
  have HB := Lib.hid hb0
  have HEZ := Lib.hid (fun W (hb : Below w.heap.size w W) => show Calls Try.prog 19 #[.slice y.z e.zones.length y.cz, .slice u.z e.zones.length u.cz] W fun r w' => r = .returned (.bool true) ∧ Below W.heap.size W w' from by
    have := equalInts_any y.z u.z y.cz u.cz e.zones e.zones W (by omega) (by omega) ((h1.below hb).mono hb.size) ((h2.below hb).mono hb.size)
    simpa using this)
  have HEV := Lib.hid (fun W (hb : Below w.heap.size w W) => show Calls Try.prog 19 #[.slice y.v e.variants.length y.cv, .slice u.v e.variants.length u.cv] W fun r w' => r = .returned (.bool true) ∧ Below W.heap.size W w' from by
    have := equalInts_any y.v u.v y.cv u.cv e.variants e.variants W (by omega) (by omega) ((h3.below hb).mono hb.size) ((h4.below hb).mono hb.size)
    simpa using this)
  have KB1 := Lib.hid (show Blk ((w.alloc (.cells #[.slice y.z e.zones.length y.cz, .int .i64 e.copies, .int .i64 e.ready, .int .i64 e.due, .slice y.v e.variants.length y.cv] 52)).alloc (.cells #[.slice u.z e.zones.length u.cz, .int .i64 e.copies, .int .i64 e.ready, .int .i64 e.due, .slice u.v e.variants.length u.cv] 98)) w.heap.size 52 #[.slice y.z e.zones.length y.cz, .int .i64 e.copies, .int .i64 e.ready, .int .i64 e.due, .slice y.v e.variants.length y.cv] from (blkAt rfl 52 _).alloc _)
  have KB2 := Lib.hid (show Blk ((w.alloc (.cells #[.slice y.z e.zones.length y.cz, .int .i64 e.copies, .int .i64 e.ready, .int .i64 e.due, .slice y.v e.variants.length y.cv] 52)).alloc (.cells #[.slice u.z e.zones.length u.cz, .int .i64 e.copies, .int .i64 e.ready, .int .i64 e.due, .slice u.v e.variants.length u.cv] 98)) (w.heap.size + 1) 98 #[.slice u.z e.zones.length u.cz, .int .i64 e.copies, .int .i64 e.ready, .int .i64 e.due, .slice u.v e.variants.length u.cv] from blkAt (by simp) 98 _)
  clear h1 h2 h3 h4
  clear hb0
  go_enter Try.func45, Try.ntmps45
  go_wp2_with first
    | (go_at_call 19; with_reducible refine (HEZ.out _ HB.out).mono ?_; rintro r w3 ⟨rfl, hb3⟩; have HB3 := Lib.hid (HB.out.trans (hb3.mono HB.out.size)); have q1 := KB1.out.below hb3 KB1.out.lt; have q2 := KB2.out.below hb3 KB2.out.lt; have a1 := q1.cell 1; have a2 := q1.cell 2; have a3 := q1.cell 3; have a4 := q1.cell 4; have b1 := q2.cell 1; have b2 := q2.cell 2; have b3 := q2.cell 3; have b4 := q2.cell 4; simp at a1 a2 a3 a4 b1 b2 b3 b4; clear hb3 q1 q2)
    | (go_at_call 19; with_reducible refine (HEV.out _ HB3.out).mono ?_; rintro r w4 ⟨rfl, hb4⟩; have HB4 := Lib.hid (HB3.out.trans (hb4.mono HB3.out.size)); clear hb4)
  go_ret
  exact ⟨rfl, HB4.out⟩
set_option maxRecDepth 20000 in
set_option maxHeartbeats 2000000 in
theorem eqf49_any (A B : Option Addr) (c d : Nat) (l : List SloD) (n : Nat) (w : World) (hn : l.length = n) (hn9 : n ≤ 1000000000) (hA : Sl encSlo 4 w w.heap.size A l) (hB : Sl encSlo 4 w w.heap.size B l) :
    Calls Try.prog 49 #[.slice A n c, .slice B n d, .func (.func 50) #[] #[]] w fun e w' => e = .returned (.bool true) ∧ Below w.heap.size w w' := by
  have HA := Lib.hid hA
  have HBB := Lib.hid hB
  clear hA hB
  go_enter Try.func49, Try.ntmps49
  go_wp2_with fail
  go_loopw [17] (fun i wr => ∃ k : Nat, k ≤ n ∧ i = .int .i64 k ∧ Hid (Below w.heap.size w wr)) (fun i _ => n - (intOf i).toNat)
  case atStart => exact ⟨0, Nat.zero_le _, rfl, Below.refl _ _⟩
  case round =>
    obtain ⟨k, hk, rfl, HB⟩ := hrel
    by_cases hlt : k < n
    · have hsz := HB.out.size
      have hkl : k < l.length := by omega
      obtain ⟨b1, o1, hb1, hl1, c0, c1, c2, c3⟩ := slo_at (HA.out.below HB.out) hkl
      obtain ⟨b2, o2, hb2, hl2, d0, d1, d2, d3⟩ := slo_at (HBB.out.below HB.out) hkl
      subst hb1 hb2
      have hl1' : b1 < wr.heap.size := by omega
      have hl2' : b2 < wr.heap.size := by omega
      have i0 : (0 : Int) ≤ (k : Int) := by omega
      have i1 : (k : Int) < (n : Int) := by omega
      go_wp2_with (go_at_call 50; refine (clo50_any l[k] _).mono ?_; rintro e w3 ⟨rfl, hb3⟩; have HB3 := Lib.hid ((balR (balR HB.out _) _ : Below w.heap.size w _).trans (hb3.mono (by simp; omega))); clear hb3)
      go_roundw
      case rel => exact ⟨k + 1, by omega, by go_num, HB3⟩
      case measure => simp [intOf]; omega
    · obtain rfl : k = n := by omega
      go_wp2_with fail
      go_ret
      exact ⟨rfl, HB.out⟩
set_option maxRecDepth 20000 in
set_option maxHeartbeats 2000000 in
theorem eqf57_any (A B : Option Addr) (c d : Nat) (l : List (Int × Int × Int)) (n : Nat) (w : World) (hn : l.length = n) (hn9 : n ≤ 1000000000) (hA : Sl enc3 3 w w.heap.size A l) (hB : Sl enc3 3 w w.heap.size B l) :
    Calls Try.prog 57 #[.slice A n c, .slice B n d, .func (.func 58) #[] #[]] w fun e w' => e = .returned (.bool true) ∧ Below w.heap.size w w' := by
  have HA := Lib.hid hA
  have HBB := Lib.hid hB
  clear hA hB
  go_enter Try.func57, Try.ntmps57
  go_wp2_with fail
  go_loopw [17] (fun i wr => ∃ k : Nat, k ≤ n ∧ i = .int .i64 k ∧ Hid (Below w.heap.size w wr)) (fun i _ => n - (intOf i).toNat)
  case atStart => exact ⟨0, Nat.zero_le _, rfl, Below.refl _ _⟩
  case round =>
    obtain ⟨k, hk, rfl, HB⟩ := hrel
    by_cases hlt : k < n
    · have hsz := HB.out.size
      have hkl : k < l.length := by omega
      obtain ⟨b1, o1, hb1, hl1, c0, c1, c2⟩ := (HA.out.below HB.out).at3 hkl
      obtain ⟨b2, o2, hb2, hl2, d0, d1, d2⟩ := (HBB.out.below HB.out).at3 hkl
      subst hb1 hb2
      have hl1' : b1 < wr.heap.size := by omega
      have hl2' : b2 < wr.heap.size := by omega
      have i0 : (0 : Int) ≤ (k : Int) := by omega
      have i1 : (k : Int) < (n : Int) := by omega
      go_wp2_with (go_at_call 58; refine (clo58_any l[k] _).mono ?_; rintro e w3 ⟨rfl, hb3⟩; have HB3 := Lib.hid ((balR (balR HB.out _) _ : Below w.heap.size w _).trans (hb3.mono (by simp; omega))); clear hb3)
      go_roundw
      case rel => exact ⟨k + 1, by omega, by go_num, HB3⟩
      case measure => simp [intOf]; omega
    · obtain rfl : k = n := by omega
      go_wp2_with fail
      go_ret
      exact ⟨rfl, HB.out⟩
set_option maxRecDepth 20000 in
set_option maxHeartbeats 2000000 in
theorem eqf102_any (A B : Option Addr) (c d : Nat) (l m : List ZonM) (n : Nat) (w : World) (hn : l.length = n) (hn9 : n ≤ 1000000000) (hm : l.map (·.1) = m.map (·.1)) (bl : ∀ i (h : i < l.length), l[i].1.variants.length ≤ 1000000000) (hA : Sl encZon 3 w w.heap.size A l) (hB : Sl encZon 3 w w.heap.size B m) (vA : ∀ i (h : i < l.length), Sl encInt 1 w w.heap.size l[i].2.1 l[i].1.variants) (vB : ∀ i (h : i < m.length), Sl encInt 1 w w.heap.size m[i].2.1 m[i].1.variants) :
    Calls Try.prog 102 #[.slice A n c, .slice B n d, .func (.func 101) #[] #[]] w fun e w' => e = .returned (.bool true) ∧ Below w.heap.size w w' := by
  have HA := Lib.hid hA
  have HBB := Lib.hid hB
  have VA := Lib.hid vA
  have VB := Lib.hid vB
  have HM := Lib.hid hm
  have BL := Lib.hid bl
  have HLM := Lib.hid (show l.length = m.length by have := congrArg List.length hm; simpa using this)
  clear hA hB vA vB hm bl
  go_enter Try.func102, Try.ntmps102
  go_wp2_with fail
  go_loopw [17] (fun i wr => ∃ k : Nat, k ≤ n ∧ i = .int .i64 k ∧ Hid (Below w.heap.size w wr)) (fun i _ => n - (intOf i).toNat)
  case atStart => exact ⟨0, Nat.zero_le _, rfl, Below.refl _ _⟩
  case round =>
    obtain ⟨k, hk, rfl, HB⟩ := hrel
    by_cases hlt : k < n
    · have hsz := HB.out.size
      have hkl : k < l.length := by omega
      have hkm : k < m.length := by have := HLM.out; omega
      have hzz : m[k].1 = l[k].1 := by
        have h1 : (l.map (·.1))[k]'(by simpa using hkl) = l[k].1 := by simp
        have h2 : (m.map (·.1))[k]'(by simpa using hkm) = m[k].1 := by simp
        rw [← h1, ← h2]
        simp only [HM.out]
      obtain ⟨b1, o1, hb1, hl1, c0, c1, c2⟩ := Sl.atZon (HA.out.below HB.out) hkl
      obtain ⟨b2, o2, hb2, hl2, d0, d1, d2⟩ := Sl.atZon (HBB.out.below HB.out) hkm
      subst hb1 hb2
      rw [hzz] at d0 d1 d2
      have HCL := Lib.hid (fun W (hb : Below w.heap.size w W) => clo101_any l[k].1 l[k].2.1 m[k].2.1 l[k].2.2 m[k].2.2 W (BL.out k hkl) (((VA.out k hkl).below hb).mono hb.size) (((by have := VB.out k hkm; rw [hzz] at this; exact this : Sl encInt 1 w w.heap.size m[k].2.1 l[k].1.variants).below hb).mono hb.size))
      have hl1' : b1 < wr.heap.size := by omega
      have hl2' : b2 < wr.heap.size := by omega
      clear hzz
      have i0 : (0 : Int) ≤ (k : Int) := by omega
      have i1 : (k : Int) < (n : Int) := by omega
      go_wp2_with (go_at_call 101; refine (HCL.out _ (balR (balR HB.out _) _)).mono ?_; rintro e w3 ⟨rfl, hb3⟩; have HB3 := Lib.hid ((balR (balR HB.out _) _ : Below w.heap.size w _).trans (hb3.mono (by simp; omega))); clear hb3)
      go_roundw
      case rel => exact ⟨k + 1, by omega, by go_num, HB3⟩
      case measure => simp [intOf]; omega
    · obtain rfl : k = n := by omega
      go_wp2_with fail
      go_ret
      exact ⟨rfl, HB.out⟩
set_option maxRecDepth 20000 in
set_option maxHeartbeats 2000000 in
theorem eqf44_any (A B : Option Addr) (c d : Nat) (l m : List EdM) (n : Nat) (w : World) (hn : l.length = n) (hn9 : n ≤ 1000000000) (hm : l.map (·.1) = m.map (·.1)) (bl : ∀ i (h : i < l.length), l[i].1.zones.length ≤ 1000000000 ∧ l[i].1.variants.length ≤ 1000000000) (hA : Sl encEd 5 w w.heap.size A l) (hB : Sl encEd 5 w w.heap.size B m) (vA : ∀ i (h : i < l.length), Sl encInt 1 w w.heap.size l[i].2.v l[i].1.variants) (vB : ∀ i (h : i < m.length), Sl encInt 1 w w.heap.size m[i].2.v m[i].1.variants) (zA : ∀ i (h : i < l.length), Sl encInt 1 w w.heap.size l[i].2.z l[i].1.zones) (zB : ∀ i (h : i < m.length), Sl encInt 1 w w.heap.size m[i].2.z m[i].1.zones) :
    Calls Try.prog 44 #[.slice A n c, .slice B n d, .func (.func 45) #[] #[]] w fun e w' => e = .returned (.bool true) ∧ Below w.heap.size w w' := by
  have HA := Lib.hid hA
  have HBB := Lib.hid hB
  have VA := Lib.hid vA
  have VB := Lib.hid vB
  have ZA := Lib.hid zA
  have ZB := Lib.hid zB
  have HM := Lib.hid hm
  have BL := Lib.hid bl
  have HLM := Lib.hid (show l.length = m.length by have := congrArg List.length hm; simpa using this)
  clear hA hB vA vB zA zB hm bl
  go_enter Try.func44, Try.ntmps44
  go_wp2_with fail
  go_loopw [17] (fun i wr => ∃ k : Nat, k ≤ n ∧ i = .int .i64 k ∧ Hid (Below w.heap.size w wr)) (fun i _ => n - (intOf i).toNat)
  case atStart => exact ⟨0, Nat.zero_le _, rfl, Below.refl _ _⟩
  case round =>
    obtain ⟨k, hk, rfl, HB⟩ := hrel
    by_cases hlt : k < n
    · have hsz := HB.out.size
      have hkl : k < l.length := by omega
      have hkm : k < m.length := by have := HLM.out; omega
      have hzz : m[k].1 = l[k].1 := by
        have h1 : (l.map (·.1))[k]'(by simpa using hkl) = l[k].1 := by simp
        have h2 : (m.map (·.1))[k]'(by simpa using hkm) = m[k].1 := by simp
        rw [← h1, ← h2]
        simp only [HM.out]
      obtain ⟨b1, o1, hb1, hl1, c0, c1, c2, c3, c4⟩ := Sl.atEd (HA.out.below HB.out) hkl
      obtain ⟨b2, o2, hb2, hl2, d0, d1, d2, d3, d4⟩ := Sl.atEd (HBB.out.below HB.out) hkm
      subst hb1 hb2
      rw [hzz] at d0 d1 d2 d3 d4
      have HCL := Lib.hid (fun W (hb : Below w.heap.size w W) => clo45_any l[k].1 l[k].2 m[k].2 W (BL.out k hkl).1 (BL.out k hkl).2 (((ZA.out k hkl).below hb).mono hb.size) (((by have := ZB.out k hkm; rw [hzz] at this; exact this : Sl encInt 1 w w.heap.size m[k].2.z l[k].1.zones).below hb).mono hb.size) (((VA.out k hkl).below hb).mono hb.size) (((by have := VB.out k hkm; rw [hzz] at this; exact this : Sl encInt 1 w w.heap.size m[k].2.v l[k].1.variants).below hb).mono hb.size))
      have hl1' : b1 < wr.heap.size := by omega
      have hl2' : b2 < wr.heap.size := by omega
      clear hzz
      have i0 : (0 : Int) ≤ (k : Int) := by omega
      have i1 : (k : Int) < (n : Int) := by omega
      go_wp2_with (go_at_call 45; refine (HCL.out _ (balR (balR HB.out _) _)).mono ?_; rintro e w3 ⟨rfl, hb3⟩; have HB3 := Lib.hid ((balR (balR HB.out _) _ : Below w.heap.size w _).trans (hb3.mono (by simp; omega))); clear hb3)
      go_roundw
      case rel => exact ⟨k + 1, by omega, by go_num, HB3⟩
      case measure => simp [intOf]; omega
    · obtain rfl : k = n := by omega
      go_wp2_with fail
      go_ret
      exact ⟨rfl, HB.out⟩
set_option maxRecDepth 20000 in
set_option maxHeartbeats 2000000 in
theorem eq103_any (A B : Option Addr) (c d n : Nat) (l : List (Int × Int × Int)) (hn : l.length = n) (hn9 : n ≤ 1000000000) (w : World) (hA : Sl enc3 3 w w.heap.size A l) (hB : Sl enc3 3 w w.heap.size B l) :
    Calls Try.prog 103 #[.slice A n c, .slice B n d] w fun e w' => e = .returned (.bool true) ∧ Below w.heap.size w w' := by
  have HA := Lib.hid hA
  have HBB := Lib.hid hB
  clear hA hB
  go_enter Try.func103, Try.ntmps103
  go_wp2_with fail
  go_loopw [13] (fun i wr => ∃ k : Nat, k ≤ n ∧ i = .int .i64 k ∧ Hid (Below w.heap.size w wr)) (fun i _ => n - (intOf i).toNat)
  case atStart => exact ⟨0, Nat.zero_le _, rfl, Below.refl _ _⟩
  case round =>
    obtain ⟨k, hk, rfl, HB⟩ := hrel
    by_cases hlt : k < n
    · have hkl : k < l.length := by omega
      obtain ⟨b1, o1, hb1, hl1, c0, c1, c2⟩ := (HA.out.below HB.out).at3 hkl
      obtain ⟨b2, o2, hb2, hl2, d0, d1, d2⟩ := (HBB.out.below HB.out).at3 hkl
      subst hb1 hb2
      have i0 : (0 : Int) ≤ (k : Int) := by omega
      have i1 : (k : Int) < (n : Int) := by omega
      go_upto_region 6 with fail
      go_quiet (fail)
      go_wp2_with fail
      go_roundw
      case rel => exact ⟨k + 1, by omega, by go_num, Lib.hid (below_drewN HB.out _)⟩
      case measure => simp [intOf]; omega
    · obtain rfl : k = n := by omega
      go_wp2_with fail
      go_ret
      exact ⟨rfl, HB.out⟩
end Go.Proofs.Ytokdleanpkkdpaa
namespace Go.Proofs.Ytokdleanpkkdpaa
open Go.RowKit Go.Fh Go.Ed
theorem box26 {w : World} {g : Nat} (t : TitD) (x : TA) (h : Blk w g 26 (titV t x)) (W : World) (hb : Below w.heap.size w W) : W.cell? ⟨g, 0, none⟩ = some (.slice x.a t.colours.length x.ca) ∧ W.cell? ⟨g, 1, none⟩ = some (.slice x.b t.pairs.length x.cb) ∧ W.cell? ⟨g, 2, none⟩ = some (.slice x.z t.zones.length x.cz) ∧ W.cell? ⟨g, 3, none⟩ = some (.slice x.r t.ready.length x.cr) ∧ W.cell? ⟨g, 4, none⟩ = some (.int .i64 t.start) ∧ W.cell? ⟨g, 5, none⟩ = some (.int .i64 t.rate) ∧ W.cell? ⟨g, 6, none⟩ = some (.int .i64 t.stop) ∧ W.cell? ⟨g, 7, none⟩ = some (.int .i64 t.hang) := by
  have k := h.below hb h.lt
  have r0 := k.cell 0
  have r1 := k.cell 1
  have r2 := k.cell 2
  have r3 := k.cell 3
  have r4 := k.cell 4
  have r5 := k.cell 5
  have r6 := k.cell 6
  have r7 := k.cell 7
  simp [titV] at r0 r1 r2 r3 r4 r5 r6 r7
  exact ⟨r0, r1, r2, r3, r4, r5, r6, r7⟩
set_option maxRecDepth 20000 in
set_option maxHeartbeats 2000000 in
theorem kept_any (t : TitD) (x y : TA) (zs ys : List ZonM) (w : World) (hs : Sizes t) (hT : TitAt w w.heap.size t x zs) (hY : TitAt w w.heap.size t y ys) :
    Calls Try.prog 52 #[.agg #[.slice x.a t.colours.length x.ca, .slice x.b t.pairs.length x.cb, .slice x.z t.zones.length x.cz, .slice x.r t.ready.length x.cr, .int .i64 t.start, .int .i64 t.rate, .int .i64 t.stop, .int .i64 t.hang], .agg #[.slice y.a t.colours.length y.ca, .slice y.b t.pairs.length y.cb, .slice y.z t.zones.length y.cz, .slice y.r t.ready.length y.cr, .int .i64 t.start, .int .i64 t.rate, .int .i64 t.stop, .int .i64 t.hang]] w fun e w' => e = .returned (.bool true) ∧ Below w.heap.size w w' := by
  obtain ⟨w1, hw1⟩ : ∃ W, W = (w.alloc (.cells #[.slice x.a t.colours.length x.ca, .slice x.b t.pairs.length x.cb, .slice x.z t.zones.length x.cz, .slice x.r t.ready.length x.cr, .int .i64 t.start, .int .i64 t.rate, .int .i64 t.stop, .int .i64 t.hang] 26)).alloc (.cells #[.slice y.a t.colours.length y.ca, .slice y.b t.pairs.length y.cb, .slice y.z t.zones.length y.cz, .slice y.r t.ready.length y.cr, .int .i64 t.start, .int .i64 t.rate, .int .i64 t.stop, .int .i64 t.hang] 26) := ⟨_, rfl⟩
  have hb1 : Below w.heap.size w w1 := by rw [hw1]; exact balR (balR (Below.refl _ _) _) _
  obtain ⟨gX, hgX⟩ : ∃ g, g = w.heap.size := ⟨_, rfl⟩
  obtain ⟨gY, hgY⟩ : ∃ g, g = w.heap.size + 1 := ⟨_, rfl⟩
  have kX : Blk w1 gX 26 (titV t x) := by rw [hw1, hgX]; exact (blkAt rfl 26 _).alloc _
  have kY : Blk w1 gY 26 (titV t y) := by rw [hw1, hgY]; exact blkAt (by simp) 26 _
  have HX := Lib.hid (fun W hb => box26 t x kX W hb)
  have HY := Lib.hid (fun W hb => box26 t y kY W hb)
  obtain ⟨a0, a1, a2, a3, a4, a5, a6, a7⟩ := HX.out _ (Below.refl _ _)
  obtain ⟨b0, b1, b2, b3, b4, b5, b6, b7⟩ := HY.out _ (Below.refl _ _)
  have hTX := fun W (hb : Below w1.heap.size w1 W) => (hT.below (hb1.trans (hb.mono hb1.size))).mono ((hb1.trans (hb.mono hb1.size)).size)
  have hTY := fun W (hb : Below w1.heap.size w1 W) => (hY.below (hb1.trans (hb.mono hb1.size))).mono ((hb1.trans (hb.mono hb1.size)).size)
  have HCA := Lib.hid (show ∀ W, Below w1.heap.size w1 W → Calls Try.prog 19 #[.slice x.a t.colours.length x.ca, .slice y.a t.colours.length y.ca] W fun e w' => e = .returned (.bool true) ∧ Below W.heap.size W w' from fun W hb => by
    have := equalInts_any x.a y.a x.ca y.ca t.colours t.colours W (by have := hs.s1; omega) (by have := hs.s1; omega) (hTX W hb).cA (hTY W hb).cA
    simpa using this)
  have HCB := Lib.hid (show ∀ W, Below w1.heap.size w1 W → Calls Try.prog 19 #[.slice x.b t.pairs.length x.cb, .slice y.b t.pairs.length y.cb] W fun e w' => e = .returned (.bool true) ∧ Below W.heap.size W w' from fun W hb => by
    have := equalInts_any x.b y.b x.cb y.cb t.pairs t.pairs W (by have := hs.s2; omega) (by have := hs.s2; omega) (hTX W hb).cB (hTY W hb).cB
    simpa using this)
  have HCZ := Lib.hid (show ∀ W, Below w1.heap.size w1 W → Calls Try.prog 102 #[.slice x.z t.zones.length x.cz, .slice y.z t.zones.length y.cz, .func (.func 101) #[] #[]] W fun e w' => e = .returned (.bool true) ∧ Below W.heap.size W w' from fun W hb =>
    eqf102_any x.z y.z x.cz y.cz zs ys t.zones.length W hT.zlen hs.s3 (by rw [hT.zeq, hY.zeq]) (fun i h => hs.s5 _ (by rw [← hT.zeq]; exact List.mem_map.2 ⟨_, List.getElem_mem h, rfl⟩)) (hTX W hb).cZ (hTY W hb).cZ (hTX W hb).cV (hTY W hb).cV)
  have HCR := Lib.hid (show ∀ W, Below w1.heap.size w1 W → Calls Try.prog 103 #[.slice x.r t.ready.length x.cr, .slice y.r t.ready.length y.cr] W fun e w' => e = .returned (.bool true) ∧ Below W.heap.size W w' from fun W hb =>
    eq103_any x.r y.r x.cr y.cr t.ready.length t.ready rfl hs.s4 W (hTX W hb).cR (hTY W hb).cR)
  have HB1 := Lib.hid hb1
  have HW1 := Lib.hid hw1
  have HGX := Lib.hid hgX
  have HGY := Lib.hid hgY
  have HB0 := Lib.hid (Below.refl w1.heap.size w1)
  clear hb1 hw1 hgX hgY kX kY hTX hTY hT hY hs
  go_enter Try.func52, Try.ntmps52
  go_upto_region 1 with fail
  rw [← HW1.out, ← HGY.out, ← HGX.out]
  go_wp2_with first
    | (go_at_call 19; with_reducible refine (HCA.out _ HB0.out).mono ?_; rintro e wk ⟨rfl, hbk⟩; have HB2 := Lib.hid (HB0.out.trans (hbk.mono HB0.out.size)); clear hbk; clear a0 a1 a2 a3 a4 a5 a6 a7; obtain ⟨a0, a1, a2, a3, a4, a5, a6, a7⟩ := HX.out _ HB2.out; clear b0 b1 b2 b3 b4 b5 b6 b7; obtain ⟨b0, b1, b2, b3, b4, b5, b6, b7⟩ := HY.out _ HB2.out)
    | (go_at_call 19; with_reducible refine (HCB.out _ HB2.out).mono ?_; rintro e wk ⟨rfl, hbk⟩; have HB3 := Lib.hid (HB2.out.trans (hbk.mono HB2.out.size)); clear hbk; clear a0 a1 a2 a3 a4 a5 a6 a7; obtain ⟨a0, a1, a2, a3, a4, a5, a6, a7⟩ := HX.out _ HB3.out; clear b0 b1 b2 b3 b4 b5 b6 b7; obtain ⟨b0, b1, b2, b3, b4, b5, b6, b7⟩ := HY.out _ HB3.out)
    | (go_at_call 102; with_reducible refine (HCZ.out _ HB3.out).mono ?_; rintro e wk ⟨rfl, hbk⟩; have HB4 := Lib.hid (HB3.out.trans (hbk.mono HB3.out.size)); clear hbk; clear a0 a1 a2 a3 a4 a5 a6 a7; obtain ⟨a0, a1, a2, a3, a4, a5, a6, a7⟩ := HX.out _ HB4.out; clear b0 b1 b2 b3 b4 b5 b6 b7; obtain ⟨b0, b1, b2, b3, b4, b5, b6, b7⟩ := HY.out _ HB4.out)
    | (go_at_call 103; with_reducible refine (HCR.out _ HB4.out).mono ?_; rintro e wk ⟨rfl, hbk⟩; have HB5 := Lib.hid (HB4.out.trans (hbk.mono HB4.out.size)); clear hbk; clear a0 a1 a2 a3 a4 a5 a6 a7; obtain ⟨a0, a1, a2, a3, a4, a5, a6, a7⟩ := HX.out _ HB5.out; clear b0 b1 b2 b3 b4 b5 b6 b7; obtain ⟨b0, b1, b2, b3, b4, b5, b6, b7⟩ := HY.out _ HB5.out)
  go_ret
  exact ⟨rfl, HB1.out.trans (HB5.out.mono HB1.out.size)⟩
end Go.Proofs.Ytokdleanpkkdpaa
