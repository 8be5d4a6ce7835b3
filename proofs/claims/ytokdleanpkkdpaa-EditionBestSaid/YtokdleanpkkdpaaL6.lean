/- Contract of great; conditions: a title in memory. -/
import Derived.Test.YtokdleanpkkdpaaL2
set_option linter.unusedSimpArgs false
set_option linter.unusedVariables false
namespace Go.Ed
open Go.Fh Go.RowKit Go.Proofs.Ytokdleanpkkdpaa
/-- a title is more than the laws look at -/
def bigZ (z : ZonD) : Bool := decide (70 < z.variants.length)
def greatB (t : TitD) : Bool := decide (70 < t.colours.length) || (decide (70 < t.pairs.length) || (decide (14 < t.zones.length) || (decide (210 < t.ready.length) || t.zones.any bigZ)))
theorem great_sizes {t : TitD} (h : greatB t = false) : t.colours.length ≤ 70 ∧ t.pairs.length ≤ 70 ∧ t.zones.length ≤ 14 ∧ t.ready.length ≤ 210 ∧ ∀ z ∈ t.zones, z.variants.length ≤ 70 := by
  unfold greatB at h
  simp only [Bool.or_eq_false_iff, decide_eq_false_iff_not, Nat.not_lt] at h
  refine ⟨h.1, h.2.1, h.2.2.1, h.2.2.2.1, fun z hz => ?_⟩
  have := List.any_eq_false.1 h.2.2.2.2 z hz
  simpa [bigZ] using this
theorem great_ok {t : TitD} (h : greatB t = false) : Sizes t := by
  obtain ⟨h1, h2, h3, h4, h5⟩ := great_sizes h
  exact ⟨by omega, by omega, by omega, by omega, fun z hz => by have := h5 z hz; omega⟩
end Go.Ed
namespace Go.Proofs.Ytokdleanpkkdpaa
open Go.RowKit Go.Fh Go.Ed
set_option maxRecDepth 20000 in
set_option maxHeartbeats 1000000 in
theorem clo38_any (z : ZonM) (w : World) :
    Calls Try.prog 38 #[.agg #[.int .i64 z.1.copies, .int .i64 z.1.due, .slice z.2.1 z.1.variants.length z.2.2]] w fun e w' => e = .returned (.bool (bigZ z.1)) ∧ Below w.heap.size w w' := by
  have hb0 : Below w.heap.size w (w.alloc (.cells #[.int .i64 z.1.copies, .int .i64 z.1.due, .slice z.2.1 z.1.variants.length z.2.2] 47)) := balR (Below.refl _ _) _
  have HB := Lib.hid hb0
  have hbg : bigZ z.1 = decide ((70 : Int) < (z.1.variants.length : Int)) := by unfold bigZ; congr 1; simp only [eq_iff_iff]; omega
  rw [hbg]
  clear hb0 hbg
  go_enter Try.func38, Try.ntmps38
  go_wp2_with fail
  go_ret
  exact ⟨rfl, HB.out⟩
set_option maxRecDepth 20000 in
set_option maxHeartbeats 1000000 in
theorem idx89_any (A : Option Addr) (c n : Nat) (l : List ZonM) (hn : l.length = n) (hn9 : n ≤ 1000) (w : World) (hA : Sl encZon 3 w w.heap.size A l) :
    Calls Try.prog 89 #[.slice A n c, .func (.func 38) #[] #[]] w fun e w' => e = .returned (.int .i64 (findI (fun z => bigZ z.1) l)) ∧ Below w.heap.size w w' := by
  have HA := Lib.hid hA
  clear hA
  go_enter Try.func89, Try.ntmps89
  go_wp2_with fail
  go_loopw [8] (fun i wr => ∃ k : Nat, k ≤ n ∧ i = .int .i64 k ∧ Hid (∀ x ∈ l.take k, bigZ x.1 = false) ∧ Hid (Below w.heap.size w wr)) (fun i _ => n - (intOf i).toNat)
  case atStart => exact ⟨0, Nat.zero_le _, rfl, by simp [Hid], Below.refl _ _⟩
  case round =>
    obtain ⟨k, hk, rfl, HN, HB⟩ := hrel
    by_cases hlt : k < n
    · have hkl : k < l.length := by omega
      obtain ⟨b, off, hba, hb, c0, c1, c2⟩ := Sl.atZon (HA.out.below HB.out) hkl
      subst hba
      have HC := Lib.hid (clo38_any l[k] wr)
      have i0 : (0 : Int) ≤ (k : Int) := by omega
      have i1 : (k : Int) < (n : Int) := by omega
      cases hw : bigZ l[k].1
      · rw [hw] at HC
        have HW := Lib.hid hw
        clear hw
        go_wp2_with (go_at_call 38; refine HC.out.mono ?_; rintro e w' ⟨rfl, hb'⟩; have HB2 := Lib.hid (HB.out.trans (hb'.mono HB.out.size)); clear hb')
        go_roundw
        case rel =>
          refine ⟨k + 1, by omega, by go_num, Lib.hid fun x hx => ?_, HB2⟩
          rw [List.take_succ_eq_append_getElem hkl, List.mem_append] at hx
          rcases hx with hx | hx
          · exact HN.out x hx
          · simp at hx; subst hx; exact HW.out
        case measure => simp [intOf]; omega
      · rw [hw] at HC
        have HR := Lib.hid (findI_hit (p := fun z : ZonM => bigZ z.1) hkl HN.out hw)
        clear hw
        go_wp2_with (go_at_call 38; refine HC.out.mono ?_; rintro e w' ⟨rfl, hb'⟩; have HB2 := Lib.hid (HB.out.trans (hb'.mono HB.out.size)); clear hb')
        go_ret
        exact ⟨ret_int HR.out.symm, HB2.out⟩
    · obtain rfl : k = n := by omega
      go_wp2_with fail
      go_ret
      exact ⟨ret_int (findI_miss (fun x hx => HN.out x (by rw [List.take_of_length_le (by omega)]; exact hx))).symm, HB.out⟩
set_option maxRecDepth 20000 in
set_option maxHeartbeats 1000000 in
theorem has37_any (A : Option Addr) (c n : Nat) (l : List ZonM) (hn : l.length = n) (hn9 : n ≤ 1000) (w : World) (hA : Sl encZon 3 w w.heap.size A l) :
    Calls Try.prog 37 #[.slice A n c, .func (.func 38) #[] #[]] w fun e w' => e = .returned (.bool ((l.map (·.1)).any bigZ)) ∧ Below w.heap.size w w' := by
  have HI := Lib.hid (idx89_any A c n l hn hn9 w hA)
  have hf := findI_any (fun z : ZonM => bigZ z.1) l
  have hm : (l.map (·.1)).any bigZ = l.any fun z => bigZ z.1 := by rw [List.any_map]; rfl
  rw [hm, ← hf]
  clear hA hf hm
  obtain ⟨q, hq⟩ : ∃ q, q = findI (fun z : ZonM => bigZ z.1) l := ⟨_, rfl⟩
  rw [← hq] at HI ⊢
  clear hq
  go_enter Try.func37, Try.ntmps37
  go_wp2_with (go_at_call 89; refine HI.out.mono ?_; rintro e w' ⟨rfl, hb⟩)
  go_ret
  exact ⟨rfl, hb⟩
set_option maxRecDepth 20000 in
set_option maxHeartbeats 1000000 in
theorem great_any (t : TitD) (x : TA) (zs : List ZonM) (w : World) (hT : TitAt w w.heap.size t x zs) :
    Calls Try.prog 10 #[.agg (titV t x)] w fun e w' => e = .returned (.bool (greatB t)) ∧ Below w.heap.size w w' := by
  obtain ⟨w1, hw1⟩ : ∃ W, W = w.alloc (.cells (titV t x) 26) := ⟨_, rfl⟩
  have hb1 : Below w.heap.size w w1 := by rw [hw1]; exact balR (Below.refl _ _) _
  obtain ⟨gT, hgT⟩ : ∃ g, g = w.heap.size := ⟨_, rfl⟩
  have kT : Blk w1 gT 26 (titV t x) := by rw [hw1, hgT]; exact Blk.new _ _ _
  obtain ⟨r0, r1, r2, r3, r4, r5, r6, r7⟩ := box26 t x kT w1 (Below.refl _ _)
  have HF := Lib.hid (fun (h : t.zones.length ≤ 14) => has37_any x.z x.cz t.zones.length zs hT.zlen (by omega) w1 ((hT.cZ.below hb1).mono hb1.size))
  rw [hT.zeq] at HF
  obtain ⟨b1, h1⟩ : ∃ b, b = decide (70 < t.colours.length) := ⟨_, rfl⟩
  obtain ⟨b2, h2⟩ : ∃ b, b = decide (70 < t.pairs.length) := ⟨_, rfl⟩
  obtain ⟨b3, h3⟩ : ∃ b, b = decide (14 < t.zones.length) := ⟨_, rfl⟩
  obtain ⟨b4, h4⟩ : ∃ b, b = decide (210 < t.ready.length) := ⟨_, rfl⟩
  obtain ⟨b5, h5⟩ : ∃ b, b = t.zones.any bigZ := ⟨_, rfl⟩
  have hg : greatB t = (b1 || (b2 || (b3 || (b4 || b5)))) := by rw [h1, h2, h3, h4, h5]; rfl
  have e1 : decide ((70 : Int) < (t.colours.length : Int)) = b1 := by rw [h1]; congr 1; simp only [eq_iff_iff]; omega
  have e2 : decide ((70 : Int) < (t.pairs.length : Int)) = b2 := by rw [h2]; congr 1; simp only [eq_iff_iff]; omega
  have e3 : decide ((14 : Int) < (t.zones.length : Int)) = b3 := by rw [h3]; congr 1; simp only [eq_iff_iff]; omega
  have e4 : decide ((210 : Int) < (t.ready.length : Int)) = b4 := by rw [h4]; congr 1; simp only [eq_iff_iff]; omega
  rw [hg]
  rw [← h5] at HF
  have H3 := Lib.hid h3
  have HB1 := Lib.hid hb1
  have HW1 := Lib.hid hw1
  have HGT := Lib.hid hgT
  clear hb1 hw1 hgT kT hT h1 h2 h3 h4 h5 hg
  unfold titV at *
  go_enter Try.func10, Try.ntmps10
  go_upto_region 1 with fail
  rw [← HW1.out, ← HGT.out]
  cases b1
  · cases b2
    · cases b3
      · cases b4
        · have hz : t.zones.length ≤ 14 := by have := H3.out; simp at this; omega
          go_wp2_with (go_at_call 37; refine (HF.out hz).mono ?_; rintro e w' ⟨rfl, hb⟩; have HB := Lib.hid hb; clear hb)
          go_ret
          exact ⟨by simp, HB1.out.trans (HB.out.mono HB1.out.size)⟩
        · go_wp2_with fail
          go_ret
          exact ⟨by simp, HB1.out⟩
      · go_wp2_with fail
        go_ret
        exact ⟨by simp, HB1.out⟩
    · go_wp2_with fail
      go_ret
      exact ⟨by simp, HB1.out⟩
  · go_wp2_with fail
    go_ret
    exact ⟨by simp, HB1.out⟩
end Go.Proofs.Ytokdleanpkkdpaa
