/- Walk of AgentScores: it returns true and turns nothing that was there; conditions: none. -/
import Derived.Test.YtgopdfbmddkpfaaT1
import Derived.Test.YtgopdfbmddkpfaaG6
import Derived.Test.YtgopdfbmddkpfaaP2
import Derived.Test.YtgopdfbmddkpfaaD3
import Derived.Test.YtgopdfbmddkpfaaK2
import Derived.Deep.RegionHeld3
import Derived.Deep.DeepCutAuto
import Derived.Deep.DeepMust
set_option linter.unusedSimpArgs false
set_option linter.unusedVariables false
namespace Go.Proofs.Ytgopdfbmddkpfaa
open Go.RowKit Go.Fh Go.Ag
theorem info72 : (Try.prog.info? 72).map (fun i => (i.zero, i.size, i.bytes)) = some (some (.agg #[.int .i64 0, .int .i64 0]), 2, 16) := by kernel_rfl

set_option maxRecDepth 20000 in
set_option maxHeartbeats 8000000 in
theorem agentScores_walk (haw : ∀ w, Calls Try.prog 15 #[] w fun e w' => e = .returned (.bool true) ∧ Below w.heap.size w w') (A : Option Addr) (c : Nat) (l : List Int) (M : Option Addr) (cm : Nat) (m : List Int) (over under : Int) (w : World) (hl : l.length ≤ 9223372036854775807) (hm : m.length ≤ 9223372036854775807)
    (hb : ∀ n ∈ l, 0 ≤ n ∧ n ≤ 255) (hbm : ∀ n ∈ m, 0 ≤ n ∧ n ≤ 255) (hA : Sl encB 1 w w.heap.size A l) (hM : Sl encB 1 w w.heap.size M m)
    (ho : 0 ≤ over) (ho2 : over ≤ 255) (hu : 0 ≤ under) (hu2 : under ≤ 255) :
    Calls Try.prog 10 #[.slice A l.length c, .slice M m.length cm, .int .u8 over, .int .u8 under] w fun e w' => e = .returned (.bool true) ∧ Below w.heap.size w w' := by
  obtain ⟨i0, hi0, hz0, hz1, hz2⟩ := info_parts info72
  have HH := Lib.hid (history_any A c l w hl hb hA)
  have HM := Lib.hid hM
  have HBD := Lib.hid hbm
  have HI0 := Lib.hid hi0
  clear hA hb hM hbm hi0
  have hdl := histD_len l
  have hdo := histD_ok l
  generalize histD l = h at HH hdl hdo
  have hok : ∀ d ∈ h, OkDay d := fun d hd => (hdo d hd).1
  have hck : checkH h = 0 := checkH_zero.2 ⟨by omega, hok⟩
  have ha1 : 0 ≤ over % 99 := by omega
  have ha2 : over % 99 < 99 := by omega
  have hb1 : 0 ≤ under % 100 := by omega
  have hb2 : under % 100 ≤ 99 := by omega
  have HCK := Lib.hid hck
  have HOK := Lib.hid hok
  have g0 := IntWalk.i64_in (1 + over % 99) (by omega)
  have hml := methD_len m
  have hmo := methD_ok m
  have HMO := Lib.hid hmo
  clear hdo hok hck hmo
  go_enter Try.func10, Try.ntmps10
  go_wp2_with fail
  refine HH.out.mono ?_
  clear HH
  rintro e w1 ⟨H1, ch, rfl, hS1, _, hb1'⟩
  have HS1 := Lib.hid hS1
  have HB1 := Lib.hid hb1'
  clear hS1 hb1'
  go_wp2_with fail
  obtain ⟨a, hae⟩ : ∃ a, a = 1 + over % 99 := ⟨_, rfl⟩
  obtain ⟨b, hbe⟩ : ∃ b, b = under % 100 := ⟨_, rfl⟩
  rw [← hae, ← hbe]
  have hx1 : 1 ≤ a := by omega
  have hx2 : a ≤ 99 := by omega
  have hy1 : 0 ≤ b := by omega
  have hy2 : b ≤ 99 := by omega
  clear hae hbe g0 ha1 ha2 hb1 hb2 ho ho2 hu hu2
  go_loopw [12, 13] (fun v i wr => ∃ k j : Nat, k ≤ methN m ∧ j = 2 * k ∧ i = .int .i64 j ∧ (∃ A' c', v = .slice A' k c') ∧ wr.ownsRow w1.heap.size 72 2 v k ((uptoF (methF m) k).flatMap enc2) ∧ Below w1.heap.size w1 wr) (fun _ i _ => 121 - (intOf i).toNat)
  case atStart => exact ⟨0, 0, Nat.zero_le _, rfl, rfl, ⟨none, 0, rfl⟩, World.ownsRow_nil _ _ _ _, Below.refl _ _⟩
  case round =>
    obtain ⟨k, j, hk, hj, rfl, ⟨R1, cc, rfl⟩, hown, hB⟩ := hrel
    have HOWN := Lib.hid hown
    clear hown
    by_cases hlt : k < methN m
    · have hn : 2 * k + 1 < m.length ∧ 2 * k < 20 ∧ k < 10 := by unfold methN at hlt; omega
      have hk60 : k < 10 := hn.2.2
      have hBW := HB1.out.trans (hB.mono HB1.out.size)
      obtain ⟨mb, off, rfl, hmb, hc⟩ := (HM.out.below hBW).atB (k := j) (by omega)
      have hsz := hB.size
      have hsz1 := HB1.out.size
      have hbw : mb < wr.heap.size := by omega
      obtain ⟨x, hx⟩ : ∃ x, x = m.getD j 0 := ⟨_, rfl⟩
      obtain ⟨y, hy⟩ : ∃ y, y = m.getD (j + 1) 0 := ⟨_, rfl⟩
      have c0 := hc j (by omega)
      have c1 := hc (j + 1) (by omega)
      rw [← hx] at c0
      rw [← hy] at c1
      have hxb : 0 ≤ x ∧ x ≤ 255 := HBD.out x (by rw [hx, List.getD_eq_getElem?_getD, List.getElem?_eq_getElem (by omega)]; exact List.getElem_mem _)
      have hyb : 0 ≤ y ∧ y ≤ 255 := HBD.out y (by rw [hy, List.getD_eq_getElem?_getD, List.getElem?_eq_getElem (by omega)]; exact List.getElem_mem _)
      have HX := Lib.hid hx
      have HY := Lib.hid hy
      have HJ := Lib.hid hj
      have hj1 : (j : Int) + 1 < m.length := by omega
      have hj2 : (j : Int) < 20 := by omega
      have g1 := IntWalk.i64_in ((j : Int) + 1) (by omega)
      have g2 := IntWalk.i64_in ((j : Int) + 2) (by omega)
      obtain ⟨hx1', hx2'⟩ := hxb
      obtain ⟨hy1', hy2'⟩ := hyb
      have g3 := IntWalk.i64_in (1 + x % 4) (by omega)
      have g4 := IntWalk.i64_in (1 + y % 8) (by omega)
      have HBWR := Lib.hid hB
      clear hc hx hy hj hn hBW
      go_upto_region 7 with fail
      go_cut [14] (fun p wx => p = .pointer (some ⟨wr.heap.size, 0, none⟩) ∧ wx = (wr.alloc (.cells #[.int .i64 (1 + x % 4), .int .i64 (1 + y % 8)] 72)).drew)
      case first =>
        clear HOWN HX HY HJ HI0
        go_region
        all_goals go_wp2_with fail
        all_goals go_meet
        all_goals exact ⟨rfl, rfl⟩
      case rest =>
        obtain ⟨rfl, rfl⟩ := hcut
        by_cases hx0 : x % 4 = 0
        · have t1 : ((1 + x % 4) == 1) = true := by simp; omega
          have hd : methF m k = (1, 1) := by unfold methF; rw [← HJ.out, ← HX.out, ← HY.out]; rw [if_pos hx0, hx0]; rfl
          have HD := Lib.hid hd
          have hown2 : (((wr.alloc (.cells #[.int .i64 1, .int .i64 1] 72)).alloc (.cells #[.int .i64 1, .int .i64 1] 72)).drew).ownsRow w1.heap.size 72 2 (.slice R1 k cc) k ((uptoF (methF m) k).flatMap enc2) := (HOWN.out.alloc (.cells #[.int .i64 1, .int .i64 1] 72)).alloc (.cells #[.int .i64 1, .int .i64 1] 72)
          have HOWN2 := Lib.hid hown2
          have hnews : ∀ j u, (enc2 (1, 1))[j]? = some u → (((wr.alloc (.cells #[.int .i64 1, .int .i64 1] 72)).alloc (.cells #[.int .i64 1, .int .i64 1] 72)).drew).cell? ((⟨wr.heap.size + 1, 0, none⟩ : Addr).add j) = some u := news_of2 wr (.cells #[.int .i64 1, .int .i64 1] 72) 72 #[.int .i64 1, .int .i64 1]
          have HNEWS := Lib.hid hnews
          have hone : ∀ u ∈ enc2 (1, 1), u.oneCell' = true := by intro u hu; simp [enc2] at hu; rcases hu with rfl | rfl <;> rfl
          have hm1 : k + 1 ≤ maxLen := by simp only [maxLen]; omega
          have hm2 : (k + 1) * 16 ≤ 140737488355328 := by omega
          have hm3 : w1.heap.size ≤ (((wr.alloc (.cells #[.int .i64 1, .int .i64 1] 72)).alloc (.cells #[.int .i64 1, .int .i64 1] 72)).drew).heap.size := by show w1.heap.size ≤ (((wr.alloc (.cells #[.int .i64 1, .int .i64 1] 72)).alloc (.cells #[.int .i64 1, .int .i64 1] 72))).heap.size; simp; omega
          have hbz : Below w1.heap.size w1 (((wr.alloc (.cells #[.int .i64 1, .int .i64 1] 72)).alloc (.cells #[.int .i64 1, .int .i64 1] 72)).drew) := ((HBWR.out.alloc HBWR.out.size _).alloc (by simp; omega) _).drew
          have HBZ := Lib.hid hbz
          have HM3 := Lib.hid hm3
          have HONE := Lib.hid hone
          clear hown2 hnews hm3 hone hd hbz
          go_wp2_with (at_builtin; refine wpList_append_own _ rfl (.tmp 74) (.tmp 76) 69 rfl w1.heap.size 72 i0 (.agg #[.int .i64 0, .int .i64 0]) 2 16 Try.underlying69 HI0.out hz0 hz1 hz2 rfl (by decide) (.slice R1 k cc) k ((uptoF (methF m) k).flatMap enc2) rfl HOWN2.out ⟨wr.heap.size + 1, 0, none⟩ 1 1 (enc2 (1, 1)) rfl rfl HNEWS.out HONE.out hm1 hm2 HM3.out ?_; intro v' w2 hown1 hg1 _)
          have HG1 := Lib.hid hg1
          have HO1 := Lib.hid hown1
          obtain ⟨A', c', rfl⟩ := own_shape hown1
          clear hg1 hown1
          go_wp2
          go_roundw
          case rel =>
            refine ⟨k + 1, j + 2, by omega, by have := HJ.out; omega, by go_num, ⟨A', c', rfl⟩, ?_, ?_⟩
            · rw [uptoF_succ, List.flatMap_append, HD.out]; simpa using HO1.out
            · exact (HBZ.out.grown HG1.out (by have := HM3.out; omega) (fun j hj => (HOWN.out.lt j hj).1))
          case measure => simp [intOf]; omega
        · have t1 : ((1 + x % 4) == 1) = false := by simp; omega
          have hd : methF m k = ((1 + x % 4), (1 + y % 8)) := by unfold methF; rw [← HJ.out, ← HX.out, ← HY.out]; rw [if_neg hx0]
          have HD := Lib.hid hd
          have hown2 : (((wr.alloc (.cells #[.int .i64 (1 + x % 4), .int .i64 (1 + y % 8)] 72)).alloc (.cells #[.int .i64 (1 + x % 4), .int .i64 (1 + y % 8)] 72)).drew).ownsRow w1.heap.size 72 2 (.slice R1 k cc) k ((uptoF (methF m) k).flatMap enc2) := (HOWN.out.alloc (.cells #[.int .i64 (1 + x % 4), .int .i64 (1 + y % 8)] 72)).alloc (.cells #[.int .i64 (1 + x % 4), .int .i64 (1 + y % 8)] 72)
          have HOWN2 := Lib.hid hown2
          have hnews : ∀ j u, (enc2 ((1 + x % 4), (1 + y % 8)))[j]? = some u → (((wr.alloc (.cells #[.int .i64 (1 + x % 4), .int .i64 (1 + y % 8)] 72)).alloc (.cells #[.int .i64 (1 + x % 4), .int .i64 (1 + y % 8)] 72)).drew).cell? ((⟨wr.heap.size + 1, 0, none⟩ : Addr).add j) = some u := news_of2 wr (.cells #[.int .i64 (1 + x % 4), .int .i64 (1 + y % 8)] 72) 72 #[.int .i64 (1 + x % 4), .int .i64 (1 + y % 8)]
          have HNEWS := Lib.hid hnews
          have hone : ∀ u ∈ enc2 ((1 + x % 4), (1 + y % 8)), u.oneCell' = true := by intro u hu; simp [enc2] at hu; rcases hu with rfl | rfl <;> rfl
          have hm1 : k + 1 ≤ maxLen := by simp only [maxLen]; omega
          have hm2 : (k + 1) * 16 ≤ 140737488355328 := by omega
          have hm3 : w1.heap.size ≤ (((wr.alloc (.cells #[.int .i64 (1 + x % 4), .int .i64 (1 + y % 8)] 72)).alloc (.cells #[.int .i64 (1 + x % 4), .int .i64 (1 + y % 8)] 72)).drew).heap.size := by show w1.heap.size ≤ (((wr.alloc (.cells #[.int .i64 (1 + x % 4), .int .i64 (1 + y % 8)] 72)).alloc (.cells #[.int .i64 (1 + x % 4), .int .i64 (1 + y % 8)] 72))).heap.size; simp; omega
          have hbz : Below w1.heap.size w1 (((wr.alloc (.cells #[.int .i64 (1 + x % 4), .int .i64 (1 + y % 8)] 72)).alloc (.cells #[.int .i64 (1 + x % 4), .int .i64 (1 + y % 8)] 72)).drew) := ((HBWR.out.alloc HBWR.out.size _).alloc (by simp; omega) _).drew
          have HBZ := Lib.hid hbz
          have HM3 := Lib.hid hm3
          have HONE := Lib.hid hone
          clear hown2 hnews hm3 hone hd hbz
          go_wp2_with (at_builtin; refine wpList_append_own _ rfl (.tmp 74) (.tmp 76) 69 rfl w1.heap.size 72 i0 (.agg #[.int .i64 0, .int .i64 0]) 2 16 Try.underlying69 HI0.out hz0 hz1 hz2 rfl (by decide) (.slice R1 k cc) k ((uptoF (methF m) k).flatMap enc2) rfl HOWN2.out ⟨wr.heap.size + 1, 0, none⟩ 1 1 (enc2 ((1 + x % 4), (1 + y % 8))) rfl rfl HNEWS.out HONE.out hm1 hm2 HM3.out ?_; intro v' w2 hown1 hg1 _)
          have HG1 := Lib.hid hg1
          have HO1 := Lib.hid hown1
          obtain ⟨A', c', rfl⟩ := own_shape hown1
          clear hg1 hown1
          go_wp2
          go_roundw
          case rel =>
            refine ⟨k + 1, j + 2, by omega, by have := HJ.out; omega, by go_num, ⟨A', c', rfl⟩, ?_, ?_⟩
            · rw [uptoF_succ, List.flatMap_append, HD.out]; simpa using HO1.out
            · exact (HBZ.out.grown HG1.out (by have := HM3.out; omega) (fun j hj => (HOWN.out.lt j hj).1))
          case measure => simp [intOf]; omega
    · obtain rfl : k = methN m := by omega
      have hn : ¬ ((j : Int) + 1 < m.length ∧ (j : Int) < 20) := by unfold methN at hj; omega
      have hjb : j ≤ 20 := by unfold methN at hj; omega
      have g1 := IntWalk.i64_in ((j : Int) + 1) (by omega)
      have hlen : (methD m).length = methN m := hml.1
      have hR : Sl enc2 2 wr wr.heap.size R1 (methD m) := Sl.of_own (enc := enc2) (c := cc) (fun _ => rfl) (by rw [hlen]; exact HOWN.out)
      have h10 := hml.2
      rw [← hlen] at h10 ⊢
      have HR := Lib.hid hR
      have HMB := Lib.hid hB
      clear hml hlen hR hj hB HOWN HBD HM HI0 hz0 hz1 hz2
      go_upto_region 5 with fail
      go_cut [51] (fun p wx => p = .bool false ∧ wx = wr)
      case first =>
        clear HR HMB HMO HCK HOK
        by_cases h1 : (j : Int) + 1 < m.length
        · have hb' : decide ((j : Int) < 20) = false := by simp; omega
          go_wp2_with fail
          go_meet
          exact ⟨rfl, rfl⟩
        · have ha' : decide ((j : Int) + 1 < (m.length : Int)) = false := by simp; omega
          go_wp2_with fail
          go_meet
          exact ⟨rfl, rfl⟩
      case rest =>
        obtain ⟨rfl, hwx⟩ := hcut
        rw [hwx]
        clear hwx hn hjb g1
        generalize methD m = ms at *
        have hF := chooseD_facts (ms := ms) (H := h) (a := a) (b := b) HCK.out (by omega) HMO.out hx1 hx2 hy1 hy2
        have hca := fun W hW1 hW2 => chooseD_any R1 cc ms H1 ch h a b W (by omega) (by omega) hW1 hW2
        obtain ⟨rr, hrr⟩ : ∃ rr, rr = chooseD ms h a b := ⟨_, rfl⟩
        rw [← hrr] at hF
        simp only [← hrr, scoreV] at hca
        clear hrr
        obtain ⟨at_, ⟨bd, bn, bv⟩, e0⟩ := rr
        dsimp only at hF hca
        obtain ⟨he, hF1, hF2, ⟨⟨n1, n2⟩, v1, v2⟩, hF3⟩ := hF
        have HE := Lib.hid he
        have HF1 := Lib.hid hF1
        have HF2 := Lib.hid hF2
        have HF3 := Lib.hid hF3
        clear he hF1 hF2 hF3
        go_wp2_with fail
        refine (hca _ HR.out ((HS1.out.below HMB.out).mono HMB.out.size)).mono ?_
        clear hca
        rintro e w2 ⟨rfl, hb2⟩
        have h12 := HMB.out.trans (hb2.mono HMB.out.size)
        obtain ⟨w3, hw3⟩ : ∃ w3, w3 = w2.alloc (.cells #[.int .i64 bd, .int .i64 bn, .int .i64 bv] 76) := ⟨_, rfl⟩
        have h13 : Below w1.heap.size w1 w3 := by rw [hw3]; exact h12.alloc h12.size _
        have h23 : Below wr.heap.size wr w3 := by rw [hw3]; exact hb2.alloc hb2.size _
        obtain ⟨gb, hgb⟩ : ∃ g, g = w2.heap.size := ⟨_, rfl⟩
        have hkb : Blk w3 gb 76 #[.int .i64 bd, .int .i64 bn, .int .i64 bv] := by rw [hw3, hgb]; exact Blk.new _ _ _
        have HKB := Lib.hid hkb
        have H13 := Lib.hid h13
        have HR3 := Lib.hid ((HR.out.below h23).mono h23.size)
        have HS3 := Lib.hid ((HS1.out.below h13).mono h13.size)
        have HW3 := Lib.hid hw3
        have HGB := Lib.hid hgb
        clear hb2 h12 h13 h23 hkb HR HMB HS1 hw3 hgb
        go_wp2_with fail
        rw [← HW3.out, ← HGB.out]
        go_loopw [18, 89] (fun f i wr => ∃ (k : Nat) (fb : Bool), k ≤ ms.length ∧ i = .int .i64 k ∧ f = .bool fb ∧ Hid (fb = true ↔ ∃ j, j < k ∧ 0 < (rK ms h a b j).1) ∧ Below w3.heap.size w3 wr) (fun _ i _ => ms.length - (intOf i).toNat)
        case atStart => exact ⟨0, false, Nat.zero_le _, rfl, rfl, by unfold Hid; simp, Below.refl _ _⟩
        case round =>
          obtain ⟨k, fb, hk, rfl, rfl, HFB, hB⟩ := hrel
          by_cases hlt : k < ms.length
          · obtain ⟨mb, off, rfl, hmb, c0, c1⟩ := (HR3.out.below hB).at2 hlt
            have hwm := HMO.out _ (List.getElem_mem hlt)
            have hrk : rK ms h a b k = rateN ms[k] h a b h.length := by unfold rK; simp [hlt]
            obtain ⟨x, hx⟩ : ∃ x, x = ms[k] := ⟨_, rfl⟩
            rw [← hx] at c0 c1 hwm hrk
            have hsz := hB.size
            have hbw : mb < wr.heap.size := by omega
            have hm2 : 1 ≤ x.2 := by simp [wrongM, inB] at hwm; omega
            obtain ⟨hbd1, hbd2, hbd3⟩ := rateN_bd (over := a) (under := b) hm2 HOK.out (by omega) (by omega) hy1 (by omega) h.length (Nat.le_refl _)
            have hval := rateD_val (H := h) (a := a) (b := b) HCK.out hwm hx1 (by omega) hy1 (by omega)
            have hra := fun W hW => rateD_any x H1 ch h a b W (by omega) hW
            obtain ⟨rr, hrr⟩ : ∃ rr, rr = rateD x h a b := ⟨_, rfl⟩
            rw [← hrr] at hval
            simp only [← hrr, scoreV] at hra
            clear hrr
            obtain ⟨⟨sd, sn, sv⟩, f⟩ := rr
            dsimp only at hra
            have HVAL := Lib.hid hval
            have HRK := Lib.hid hrk
            have HWM := Lib.hid hwm
            have HX := Lib.hid hx
            have HRBD := Lib.hid (And.intro hbd1 (And.intro hbd2 hbd3))
            have hkx := Blk.new wr 72 #[.int .i64 x.1, .int .i64 x.2]
            have hBx := hB.alloc hB.size (.cells #[.int .i64 x.1, .int .i64 x.2] 72)
            have HKX := Lib.hid hkx
            have HBX := Lib.hid hBx
            clear hval hrk hwm hx hbd1 hbd2 hbd3 hkx hBx
            go_wp2_with fail
            refine (hra _ ((HS3.out.below HBX.out).mono HBX.out.size)).mono ?_
            clear hra
            rintro e w4 ⟨rfl, hb4⟩
            have h34 := HBX.out.trans (hb4.mono HBX.out.size)
            obtain ⟨w5, hw5⟩ : ∃ w5, w5 = w4.alloc (.cells #[.int .i64 sd, .int .i64 sn, .int .i64 sv] 76) := ⟨_, rfl⟩
            have h35 : Below w3.heap.size w3 w5 := by rw [hw5]; exact h34.alloc h34.size _
            obtain ⟨gs, hgs⟩ : ∃ g, g = w4.heap.size := ⟨_, rfl⟩
            obtain ⟨gx, hgx⟩ : ∃ g, g = wr.heap.size := ⟨_, rfl⟩
            have hks : Blk w5 gs 76 #[.int .i64 sd, .int .i64 sn, .int .i64 sv] := by rw [hw5, hgs]; exact Blk.new _ _ _
            have hkx : Blk w5 gx 72 #[.int .i64 x.1, .int .i64 x.2] := by rw [hw5, hgx]; exact (Blk.below HKX.out hb4 HKX.out.lt).alloc _
            have HKX5 := Lib.hid hkx
            have HKS5 := Lib.hid hks
            have H35 := Lib.hid h35
            have HW5 := Lib.hid hw5
            have HGS := Lib.hid hgs
            have HGX := Lib.hid hgx
            clear hb4 h34 h35 hkx hks HKX HBX hw5 hgs hgx c0 c1
            go_wp2_with fail
            rw [← HW5.out, ← HGS.out, ← HGX.out]
            go_loopw [23, 24, 104] (fun dv lv i wr => ∃ j : Nat, j ≤ h.length ∧ i = .int .i64 j ∧ dv = .int .i64 ((rateN x h a b j).1 : Nat) ∧ lv = .int .i64 (rateN x h a b j).2 ∧ Below w5.heap.size w5 wr) (fun _ _ i _ => h.length - (intOf i).toNat)
            case atStart => exact ⟨0, Nat.zero_le _, rfl, rfl, rfl, Below.refl _ _⟩
            case round =>
              clear hB hsz hbw
              obtain ⟨j, hj, rfl, rfl, rfl, hB⟩ := hrel
              have hsz := hB.size
              have h35 := H35.out.trans (hB.mono H35.out.size)
              have hkx := Blk.below HKX5.out hB HKX5.out.lt
              obtain ⟨rb1, rb2, rb3⟩ := rateN_bd (over := a) (under := b) hm2 HOK.out (by omega) (by omega) hy1 (by omega) j hj
              by_cases hjt : j < h.length
              · obtain ⟨db, doff, rfl, hdb, d0, d1⟩ := (HS3.out.below h35).at2 hjt
                have hdo := HOK.out _ (List.getElem_mem hjt)
                have hgd : h.getD j (0, 0) = h[j] := by simp [hjt]
                have hq := saysM_bd (day := (j : Int)) hm2 HOK.out
                have hsv := saysD_val (k := j) HCK.out HWM.out (Nat.le_of_lt hjt)
                have hrs : rateN x h a b (j + 1) = if (saysM x h j).2 = true then ((rateN x h a b j).1 + 1, (rateN x h a b j).2 + lossOf (h.getD j (0, 0)).1 (h.getD j (0, 0)).2 (saysM x h j).1 a b) else rateN x h a b j := rfl
                rw [hgd] at hrs
                obtain ⟨d, hd⟩ : ∃ d, d = h[j] := ⟨_, rfl⟩
                rw [← hd] at d0 d1 hdo hrs
                have h3z := H35.out.size
                have hdbw : db < wr.heap.size := by have := h35.size; omega
                have hlv := lossR_val (a := a) (b := b) hdo hq.1 hq.2 hx1 (by omega) hy1 (by omega)
                have hlb := lossOf_bd (s := d.1) (r := d.2) (over := a) (under := b) hdo hq.1 hq.2 (by omega) (by omega) hy1 (by omega)
                have hsa := fun W hW => saysD_any x (some ⟨db, doff, none⟩) ch h j W (by omega) hW
                have hla := fun q W => lossR_any d q a b W
                simp only [hsv] at hsa
                generalize rateN x h a b j = rj at *
                obtain ⟨dn, ln⟩ := rj
                generalize saysM x h j = sm at *
                obtain ⟨q, ok⟩ := sm
                dsimp only at *
                have hla := hla q
                simp only [hlv] at hla
                generalize lossOf d.1 d.2 q a b = lo at *
                have HRS := Lib.hid hrs
                have HLA := Lib.hid hla
                have HSA := Lib.hid hsa
                have hkd := Blk.new wr 33 #[.int .i64 d.1, .int .i64 d.2]
                have hBd := hB.alloc hB.size (.cells #[.int .i64 d.1, .int .i64 d.2] 33)
                have hkx2 := hkx.alloc (.cells #[.int .i64 d.1, .int .i64 d.2] 33)
                have m0 := hkx2.cell 0
                have m1 := hkx2.cell 1
                simp at m0 m1
                have HKD := Lib.hid hkd
                have HBD := Lib.hid hBd
                have H3D := Lib.hid (H35.out.trans (hBd.mono h3z))
                clear hkd hBd hkx hkx2 hrs hla hsa hsv hlv hd hgd hdo
                go_wp2_with fail
                refine (HSA.out _ ((HS3.out.below H3D.out).mono H3D.out.size)).mono ?_
                rintro e w6 ⟨rfl, hb6⟩
                have hb56 := HBD.out.trans (hb6.mono HBD.out.size)
                have hkd6 := Blk.below HKD.out hb6 HKD.out.lt
                have p0 := hkd6.cell 0
                have p1 := hkd6.cell 1
                simp at p0 p1
                have HB56 := Lib.hid hb56
                clear hb6 hb56 hkd6 m0 m1 d0 d1
                cases ok
                · go_wp2_with fail
                  go_roundw
                  case rel => exact ⟨j + 1, by omega, by go_num, by rw [HRS.out]; rfl, by rw [HRS.out]; rfl, HB56.out⟩
                  case measure => simp [intOf]; omega
                · have f1 := IntWalk.i64_in ((dn : Int) + 1) (by omega)
                  have f2 := IntWalk.i64_in (ln + lo) (by omega)
                  go_wp2_with fail
                  refine (HLA.out _).mono ?_
                  rintro e w7 ⟨rfl, hb7⟩
                  have HB57 := Lib.hid (HB56.out.trans (hb7.mono HB56.out.size))
                  clear hb7
                  go_wp2_with fail
                  go_roundw
                  case rel => exact ⟨j + 1, by omega, by go_num, by rw [HRS.out]; exact int_eq (by simp), by rw [HRS.out]; rfl, HB57.out⟩
                  case measure => simp [intOf]; omega
              · obtain rfl : j = h.length := by omega
                clear rb1 rb2 rb3 hsz
                have h35w := h35
                obtain ⟨rb1, rb2, rb3⟩ := HRBD.out
                have hrk := HRK.out
                have hval := HVAL.out
                have htw := rateN_twice x h a b h.length
                have hval2 := rateD_val (H := h) (a := 2 * a) (b := 2 * b) HCK.out HWM.out (by omega) (by omega) (by omega) (by omega)
                have hra2 := fun W hW => rateD_any x H1 ch h (2 * a) (2 * b) W (by omega) hW
                rw [htw] at hval2
                simp only [hval2, scoreV] at hra2
                have hf3 := HF3.out k hlt
                rw [hrk] at hf3
                clear htw hval2 HRBD HVAL
                have hdn60 : (rateN x h a b h.length).1 ≤ 60 := by omega
                generalize rateN x h a b h.length = R at *
                obtain ⟨dn, ln⟩ := R
                dsimp only at *
                by_cases hdn : dn = 0
                · subst hdn
                  rw [if_pos rfl] at hval
                  obtain ⟨⟨rfl, rfl, rfl⟩, rfl⟩ : (sd = 0 ∧ sn = 0 ∧ sv = 0) ∧ f = 4 := by simpa using hval
                  have hfb : fb = true ↔ ∃ j, j < k + 1 ∧ 0 < (rK ms h a b j).1 := by
                    rw [HFB.out]
                    constructor
                    · rintro ⟨j, h1, h2⟩; exact ⟨j, by omega, h2⟩
                    · rintro ⟨j, h1, h2⟩
                      refine ⟨j, ?_, h2⟩
                      by_cases e : j = k
                      · subst e; rw [hrk] at h2; omega
                      · omega
                  have HFB2 := Lib.hid hfb
                  have H3W := Lib.hid h35w
                  clear hval hfb hf3 hra2 hrk h35w h35 hkx
                  go_wp2_with fail
                  go_roundw
                  case rel => exact ⟨k + 1, fb, by omega, by go_num, rfl, HFB2, H3W.out⟩
                  case measure => simp [intOf]; omega
                · rw [if_neg hdn] at hval
                  have hpos : 0 < dn := by omega
                  rw [if_neg hdn] at hra2
                  obtain ⟨f1, f2, f4, f5⟩ := hf3 hpos
                  have hr1 := ratioD_bd (n := ln.toNat) (d := dn) (a := 600000000) (b := 60) (by omega) (by omega)
                  have hr2 := ratioD_bd (n := (2 * ln).toNat) (d := dn) (a := 1200000000) (b := 60) (by omega) (by omega)
                  have hx2' := ratio_two hpos rb2
                  have hcr := ratioD_cross (n := ln.toNat) hpos
                  have hsp : 1 ≤ (ratioD ln.toNat dn).2 := by obtain ⟨_, _, _, _, hsp, _⟩ := ratioD_spec (n := ln.toNat) hpos; exact hsp
                  have hrv : (((ln.toNat : Nat) : Int)) = ln := by omega
                  rw [hrv] at hcr
                  have hs : ((sd = (dn : Int) ∧ sn = (ratioD ln.toNat dn).1 ∧ sv = (ratioD ln.toNat dn).2) ∧ f = 0) := by
                    have e := hval
                    simp only [Prod.mk.injEq] at e
                    obtain ⟨⟨e1, e2⟩, e3⟩ := e
                    exact ⟨⟨e1, by rw [← e2], by rw [← e2]⟩, e3⟩
                  obtain ⟨⟨rfl, e2, e3⟩, rfl⟩ := hs
                  rw [← e2, ← e3] at hx2' hcr hr1 f4
                  rw [← e3] at hsp
                  clear hval e2 e3 hrv
                  generalize (ratioD (2 * ln).toNat dn).1 = tn at *
                  generalize (ratioD (2 * ln).toNat dn).2 = tv at *
                  subst f1
                  have b1 := mul_bdN hr1.1 hr1.2.1 (show (0 : Int) ≤ dn by omega) (show (dn : Int) ≤ 60 by omega)
                  have b2 := mul_bdN rb2 (show ln ≤ 600000000 by omega) hr1.2.2.1 hr1.2.2.2
                  have b3 := mul_bdN hr2.1 hr2.2.1 hr1.2.2.1 hr1.2.2.2
                  have b4 := mul_bdN (show 0 ≤ 2 * sn by omega) (show 2 * sn ≤ 1200000000 by omega) hr2.2.2.1 hr2.2.2.2
                  have b5 := mul_bdN rb2 (show ln ≤ 600000000 by omega) v1 v2
                  have b6 := mul_bdN n1 n2 (show (0 : Int) ≤ dn by omega) (show (dn : Int) ≤ 60 by omega)
                  have w1 := IntWalk.i64_in (sn * dn) (by omega)
                  have w2 := IntWalk.i64_in (ln * sv) (by omega)
                  have w3 := IntWalk.i64_in (tn * sv) (by omega)
                  have w4 := IntWalk.i64_in (2 * sn) (by omega)
                  have w5' := IntWalk.i64_in (2 * sn * tv) (by omega)
                  have w6' := IntWalk.i64_in (ln * bv) (by omega)
                  have w7' := IntWalk.i64_in (bn * dn) (by omega)
                  have w8' := IntWalk.i64_in (2 * a) (by omega)
                  have w9' := IntWalk.i64_in (2 * b) (by omega)
                  have q0 : (((dn : Nat) : Int) == 0) = false := by simp; omega
                  have q1 : (sn * dn != ln * sv) = false := by simp [hcr]
                  have q2 : (tn * sv != 2 * sn * tv) = false := by simp [hx2']
                  have q3 : decide (sv < 1) = false := by simp; omega
                  have q4 : decide (ln * bv < bn * dn) = false := by simp; omega
                  have hfb : (true = true) ↔ ∃ j, j < k + 1 ∧ 0 < (rK ms h a b j).1 := ⟨fun _ => ⟨k, by omega, by rw [hrk]; exact hpos⟩, fun _ => rfl⟩
                  have HFB2 := Lib.hid hfb
                  have m0 := hkx.cell 0
                  have m1 := hkx.cell 1
                  simp at m0 m1
                  have H3W := Lib.hid h35w
                  have hks := Blk.below HKS5.out hB HKS5.out.lt
                  have HKS := Lib.hid hks
                  have hkb := Blk.below HKB.out h35w HKB.out.lt
                  have HKBR := Lib.hid hkb
                  clear hf3 hks hkb hkx hx2' hcr b1 b2 b3 b4 b5 b6 hr1 hr2 hfb hsp rb1 rb2 rb3 h35 hB
                  have hat : (((k : Int) == at_) = true ∧ decide ((k : Int) < at_) = false ∧ bd = dn ∧ bn = sn ∧ bv = sv) ∨ (((k : Int) == at_) = false ∧ decide ((k : Int) < at_) = true ∧ (ln * bv == bn * dn) = false) ∨ (((k : Int) == at_) = false ∧ decide ((k : Int) < at_) = false) := by
                    by_cases h1 : (k : Int) = at_
                    · obtain ⟨g1, g2, g3⟩ := f4 h1
                      exact .inl ⟨by simp [h1], by simp; omega, g1, g2, g3⟩
                    · by_cases h2 : (k : Int) < at_
                      · have := f5 h2
                        exact .inr (.inl ⟨by simp [h1], decide_eq_true h2, by simp; omega⟩)
                      · exact .inr (.inr ⟨by simp [h1], decide_eq_false h2⟩)
                  clear f2 f4 f5 hrk hpos hdn
                  go_wp2_with fail
                  refine (hra2 _ ((HS3.out.below H3W.out).mono H3W.out.size)).mono ?_
                  clear hra2 m0 m1
                  rintro e w6 ⟨rfl, hb6⟩
                  have hks6 := (Blk.below HKS.out hb6 HKS.out.lt).alloc (.cells #[.int .i64 dn, .int .i64 tn, .int .i64 tv] 76)
                  have hkb6 := (Blk.below HKBR.out hb6 HKBR.out.lt).alloc (.cells #[.int .i64 dn, .int .i64 tn, .int .i64 tv] 76)
                  have hk6 := Blk.new w6 76 #[.int .i64 dn, .int .i64 tn, .int .i64 tv]
                  have h36 := H3W.out.trans (hb6.mono H3W.out.size)
                  have H37 := Lib.hid (h36.alloc h36.size (.cells #[.int .i64 dn, .int .i64 tn, .int .i64 tv] 76))
                  have y0 := hks6.cell 0
                  have y1 := hks6.cell 1
                  have y2 := hks6.cell 2
                  have z0 := hkb6.cell 0
                  have z1 := hkb6.cell 1
                  have z2 := hkb6.cell 2
                  have x0 := hk6.cell 0
                  have x1 := hk6.cell 1
                  have x2 := hk6.cell 2
                  simp at x0 x1 x2 y0 y1 y2 z0 z1 z2
                  clear hb6 h36 hks6 hkb6 hk6
                  rcases hat with ⟨t5, t6, rfl, rfl, rfl⟩ | ⟨t5, t6, t7⟩ | ⟨t5, t6⟩
                  all_goals
                    go_wp2_with fail
                    go_roundw
                    case rel => exact ⟨k + 1, true, by omega, by go_num, rfl, (by have h0 := HFB2.out; unfold Hid; exact ⟨fun _ => h0.1 trivial, fun _ => rfl⟩), H37.out⟩
                    case measure => simp [intOf]; omega
          · obtain rfl : k = ms.length := by omega
            have hfb := HFB.out
            have h13 := H13.out
            have hor : (e0 = 0 ∧ fb = true) ∨ (e0 = 4 ∧ fb = false) := by
              rcases HE.out with h0 | h4
              · left
                exact ⟨h0, hfb.2 (HF2.out h0)⟩
              · right
                refine ⟨h4, ?_⟩
                cases hh : fb
                · rfl
                · obtain ⟨j, h1, h2⟩ := hfb.1 hh
                  have := HF1.out h4 j h1
                  omega
            have HFIN := Lib.hid (HB1.out.trans ((h13.trans (hB.mono h13.size)).mono HB1.out.size))
            clear hfb h13 hB
            rcases hor with ⟨rfl, rfl⟩ | ⟨rfl, rfl⟩
            all_goals
              go_wp2_with fail
              refine (haw _).mono ?_
              rintro e w9 ⟨rfl, hb9⟩
              have hbb9 := HFIN.out.trans (hb9.mono HFIN.out.size)
              go_wp2_with fail
              go_ret
              exact ⟨rfl, hbb9⟩
end Go.Proofs.Ytgopdfbmddkpfaa
