/- Contract of Splices at a web of a valid press; conditions: as it says. -/
import Derived.Test.YtnbnfadmbggfnaaCK
set_option linter.unusedSimpArgs false
set_option linter.unusedVariables false
namespace Go.Proofs.Ytnbnfadmbggfnaa
open Go.RowKit Go.Fh Go.Rl
set_option maxRecDepth 20000 in
set_option maxHeartbeats 4000000 in
theorem spl21_ok (p : PrsD) (A : Option Addr) (c m : Nat) (ms : List WebM) (w : World) (hT : PrsAt w w.heap.size p A ms) (hm : m = ms.length) (hp : errP p = 0) (i : Nat) (hi : i < ms.length) (P : List Int) (hP : P = plcs ms[i].1.reels) :
    Calls Try.prog 21 #[.agg #[.int .i64 p.cut, .int .i64 p.margin, .slice A m c], .int .i64 i] w fun e w' => ∃ A' c', e = .returned (.tuple #[.slice A' P.length c', .int .i64 0]) ∧ Hid (Sl encInt 1 w' w'.heap.size A' P) ∧ Hid (Below w.heap.size w w') := by
  obtain ⟨w1, gT, HW1, HGT, HB1, HTB⟩ := prs_box p A c m ms w hT
  obtain ⟨hT1, r0, r1, r2⟩ := HTB.out w1 (Below.refl _ _)
  have hml : m = p.webs.length := by rw [hm, hT.len]
  have hpo := prs_ok hp
  have hm6 := hpo.n1
  have hC := check_any p A c m ms w1 hT1 hm (by omega)
  rw [hp] at hC
  have HC := Lib.hid hC
  have hwe : ms[i].1 ∈ p.webs := by rw [← hT.eq]; exact List.mem_map.2 ⟨_, List.getElem_mem hi, rfl⟩
  have hwo := hpo.w _ hwe
  have hcr := hT.cR i hi
  have HTC := Lib.hid (fun W (hb : Below w1.heap.size w1 W) => web_at (HTB.out W hb).1.cW hi)
  obtain ⟨⟨v, vA, vc⟩, hv⟩ : ∃ v, v = ms[i] := ⟨_, rfl⟩
  rw [← hv] at hwo hcr HTC hP
  dsimp only at hwo hcr HTC hP
  have i0 : (0 : Int) ≤ (i : Int) := by omega
  have i1 : (i : Int) < (m : Int) := by omega
  have i2 : (i : Int) ≤ (m : Int) - 1 := by omega
  have H48 := Lib.hid (show ∀ W, Calls Try.prog 48 #[.int .i64 i, .int .i64 0, .int .i64 ((m : Int) - 1)] W fun e w' => e = .returned (.bool true) ∧ W = w' from fun W => by
    have := within_any (i : Int) 0 ((m : Int) - 1) W
    rw [inB_iff.2 ⟨i0, i2⟩] at this; exact this)
  have s1 : IntKind.i64.wrap ((m : Int) - 1) = (m : Int) - 1 := by rw [IntKind.wrap_i64]; omega
  have HWO := Lib.hid hwo
  have HCR := Lib.hid hcr
  have HPE := Lib.hid hP
  clear hC hT hT1 hm hml hpo hm6 hwe hwo hcr hv hp hP
  go_enter Try.func21, Try.ntmps21
  go_upto_region 1 with fail
  rw [← HW1.out, ← HGT.out]
  go_upto_region 6 with first
    | (go_at_call 39; with_reducible refine HC.out.mono ?_; rintro e w2 ⟨rfl, HB2⟩; clear r0 r1 r2; obtain ⟨-, r0, r1, r2⟩ := HTB.out w2 HB2.out)
    | (go_at_call 48; with_reducible refine (H48.out _).mono ?_; rintro e wz ⟨rfl, rfl⟩)
  obtain ⟨b, off, hba, hbb, c0, c1, c2, c3⟩ := HTC.out w2 HB2.out
  subst hba
  have hb02 : Below w.heap.size w w2 := HB1.out.trans (HB2.out.mono HB1.out.size)
  obtain ⟨w3, hw3⟩ : ∃ W, W = w2.alloc (.cells #[.slice vA v.reels.length vc, .int .i64 v.off, .int .i64 v.bef, .int .i64 v.aft] 41) := ⟨_, rfl⟩
  have hb23 : Below w2.heap.size w2 w3 := by rw [hw3]; exact balR (Below.refl _ _) _
  have HCO := Lib.hid (collect_any v vA vc w2.heap.size w w3 HWO.out HCR.out (hb02.trans (hb23.mono hb02.size)) (by rw [hw3]; exact Blk.new _ _ _))
  rw [← HPE.out] at HCO
  have HB3 := Lib.hid (hb02.trans (hb23.mono hb02.size))
  have HW3 := Lib.hid hw3
  clear hb02 hb23 hw3
  go_wp2_with first
    | (go_at_call 50; with_reducible refine (splices50_any _ _ rfl).mono ?_; rintro e wz ⟨rfl, hwz⟩; obtain rfl : wz = w3 := hwz.trans HW3.out.symm; clear hwz)
    | (go_at_call 49; with_reducible refine HCO.out.mono ?_; rintro e w4 ⟨A', c', rfl, HS, HB4⟩)
  go_ret2
  exact ⟨A', c', rfl, HS, Lib.hid (bstep HB3.out HB4.out)⟩
end Go.Proofs.Ytnbnfadmbggfnaa
