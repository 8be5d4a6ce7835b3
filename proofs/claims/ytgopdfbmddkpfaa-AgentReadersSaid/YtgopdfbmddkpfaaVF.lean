/- Contract of the law's readers; conditions: lists as the law lets them by. -/
import Derived.Test.YtgopdfbmddkpfaaVA
import Derived.Test.YtgopdfbmddkpfaaH2
import Derived.Test.YtgopdfbmddkpfaaV1
import Derived.Test.YtgopdfbmddkpfaaE1
import Derived.Test.YtgopdfbmddkpfaaVC
import Derived.Test.YtgopdfbmddkpfaaX4
import Derived.Test.YtgopdfbmddkpfaaV5
import Derived.Test.YtgopdfbmddkpfaaV9
import Derived.Test.YtgopdfbmddkpfaaS2
set_option linter.unusedSimpArgs false
set_option linter.unusedVariables false
namespace Go.Proofs.Ytgopdfbmddkpfaa
open Go.RowKit Go.Fh Go.Ag

set_option maxRecDepth 20000 in
set_option maxHeartbeats 4000000 in
theorem rround_any (A : Option Addr) (c : Nat) (l : List SubM) (day : Int) (w : World) (hl : l.length ≤ 9223372036854775807) (hh : ∀ x ∈ l, x.1.hol.length ≤ 1000) (hA : Sl encSub 5 w w.heap.size A l) (hI : ∀ x ∈ l, Sl enc2 2 w w.heap.size x.2.1 x.1.hol) :
    Calls Try.prog 88 #[.slice A l.length c, .int .i64 day] w fun e w' => ∃ A' c', e = .returned (.tuple #[.slice A' (roundR (l.map Prod.fst) day).1.length c', .int .i64 (roundR (l.map Prod.fst) day).2]) ∧ Sl encInt 1 w' w'.heap.size A' (roundR (l.map Prod.fst) day).1 ∧ Below w.heap.size w w' := by
  obtain ⟨i0, hi0, hz0, hz1, hz2⟩ := info_parts infoInt
  have HI0 := Lib.hid hi0
  have HA := Lib.hid hA
  have HIN := Lib.hid hI
  have HSM := Lib.hid (listed_any A c l w hl hh hA hI)
  have HH := Lib.hid hh
  obtain ⟨ls, hls⟩ : ∃ ls, ls = l.map Prod.fst := ⟨_, rfl⟩
  rw [← hls] at HSM ⊢
  have HLS := Lib.hid hls
  clear hi0 hA hI hh hls
  by_cases hE : listE ls = 0
  · cases hd : inB day 0 20000
    · have hr : roundR ls day = ([], 6) := by simp [roundR, hE, hd]
      have HR := Lib.hid hr
      have HE := Lib.hid hE
      clear hr hE
      go_enter Try.func88, Try.ntmps88
      go_wp2_with fail
      refine HSM.out.mono ?_
      rintro e w1 ⟨rfl, hb1⟩
      rw [HE.out]
      go_wp2_with (go_at_call 103; refine (rin_any _ _ _ _).mono ?_; rintro e w' ⟨rfl, rfl⟩)
      go_ret2
      exact ⟨none, 0, by rw [HR.out]; rfl, by rw [HR.out]; exact Sl.nil, hb1⟩
    · have hr : roundR ls day = ((ls.filter fun s => getsB s day).map SubD.id, 0) := by simp [roundR, hE, hd]
      have HR := Lib.hid hr
      have HE := Lib.hid hE
      obtain ⟨hl5, hoks, _⟩ := listE_zero hE
      have HOKS := Lib.hid hoks
      have hl500 : l.length ≤ 500 := by rw [HLS.out] at hl5; simpa using hl5
      clear hr hE hl5 hoks
      go_enter Try.func88, Try.ntmps88
      go_wp2_with fail
      refine HSM.out.mono ?_
      rintro e w1 ⟨rfl, hb1⟩
      rw [HE.out]
      have HB1 := Lib.hid hb1
      have hz1' := hb1.size
      clear hb1
      go_wp2_with (go_at_call 103; refine (rin_any _ _ _ _).mono ?_; rintro e w' ⟨rfl, rfl⟩)
      go_loopw [7, 8] (fun v i wr => ∃ (k : Nat) (os : List Int), k ≤ l.length ∧ i = .int .i64 k ∧ Hid (os = ((ls.take k).filter fun s => getsB s day).map SubD.id) ∧ os.length ≤ k ∧ (∃ A' c', v = .slice A' os.length c') ∧ wr.ownsRow w1.heap.size 3 1 v os.length (os.map (Value.int .i64)) ∧ Below w1.heap.size w1 wr) (fun _ i _ => l.length - (intOf i).toNat)
      case atStart => exact ⟨0, [], Nat.zero_le _, rfl, by simp [Hid], by simp, ⟨none, 0, rfl⟩, World.ownsRow_nil _ _ _ _, Below.refl _ _⟩
      case round =>
        obtain ⟨k, os, hk, rfl, HOS, hosl, ⟨A1, cc, rfl⟩, hown, hB⟩ := hrel
        have HOWN := Lib.hid hown
        clear hown
        have hsz := hB.size
        have hBw := HB1.out.trans (hB.mono HB1.out.size)
        by_cases hlt : k < l.length
        · obtain ⟨b, off, rfl, hb, c0, c1, c2, c3, c4⟩ := (HA.out.below hBw).at5 hlt
          have hxI := HIN.out _ (List.getElem_mem hlt)
          have hlsl : k < ls.length := by rw [HLS.out]; simpa using hlt
          have hgk : ls[k] = l[k].1 := by
            have : ls[k]? = some l[k].1 := by rw [HLS.out]; simp [hlt]
            rw [List.getElem?_eq_getElem hlsl] at this
            exact Option.some.inj this
          have hxo : OkS l[k].1 := HOKS.out _ (by rw [← hgk]; exact List.getElem_mem hlsl)
          have htk : ((ls.take (k + 1)).filter fun s => getsB s day).map SubD.id = os ++ (if getsB l[k].1 day then [l[k].1.id] else []) := by
            rw [List.take_succ_eq_append_getElem hlsl, List.filter_append, List.map_append, ← HOS.out, hgk]
            cases hg : getsB l[k].1 day <;> simp [hg]
          obtain ⟨x, hx⟩ : ∃ x, x = l[k] := ⟨_, rfl⟩
          rw [← hx] at c0 c1 c2 c3 c4 hxI hxo htk
          have hbw : b < wr.heap.size := by have := hBw.size; omega
          have hg := rgets_any x.1 x.2.1 x.2.2 day wr hxo.2.2.2.1.1 hxo.2.2.2.1.2 (inB_iff.1 hd).1 (by have := hxo.2.2.2.2.1; omega) ((hxI.below hBw).mono hBw.size)
          have HG := Lib.hid hg
          have HBX := Lib.hid hB
          have HOX := HOWN
          have HTK := Lib.hid htk
          clear hxI hlsl hgk hxo htk hx hg
          go_wp2_with fail
          refine HG.out.mono ?_
          rintro e w2 ⟨rfl, hb2⟩
          have u0 := (hb2.cell (p := ⟨b, off + k * 5, none⟩) (by exact hbw)).trans c0
          have HB2 := Lib.hid (HBX.out.trans (hb2.mono HBX.out.size))
          have ho2 := World.ownsRow.kept HOX.out (w' := w2) (row := none) ⟨hb2.os, hb2.tape, hb2.output, hb2.size, fun j hj _ => hb2.block j hj⟩ (by by_cases h : (Value.slice A1 os.length cc).ownBlock = none; (exact .inl h); (exact .inr h))
          have HO2 := Lib.hid ho2
          clear hb2 ho2 c0 c1 c2 c3 c4
          cases hgt : getsB x.1 day
          · rw [hgt] at HTK
            go_wp2_with fail
            go_roundw
            case rel => exact ⟨k + 1, os, by omega, by go_num, by rw [Hid, HTK.out]; simp, by omega, ⟨A1, cc, rfl⟩, HO2.out, HB2.out⟩
            case measure => simp [intOf]; omega
          · rw [hgt] at HTK
            have hown4 := HO2.out.alloc (.cells #[.int .i64 x.1.id] 3)
            have HOWN4 := Lib.hid hown4
            have HNEWS := Lib.hid (news_of1 w2 3 #[.int .i64 x.1.id])
            have hone : ∀ u ∈ [Value.int .i64 x.1.id], u.oneCell' = true := by intro u hu; simp at hu; subst hu; rfl
            have hm1 : os.length + 1 ≤ maxLen := by simp only [maxLen]; omega
            have hm2 : (os.length + 1) * 8 ≤ 140737488355328 := by omega
            have hm3 : w1.heap.size ≤ (w2.alloc (.cells #[.int .i64 x.1.id] 3)).heap.size := by have := HB2.out.size; simp; omega
            have HM3 := Lib.hid hm3
            have HONE := Lib.hid hone
            clear hown4 hm3 hone
            go_wp2_with (at_builtin; refine wpList_append_own _ rfl (.tmp 29) (.tmp 35) 37 rfl w1.heap.size 3 i0 (.int .i64 0) 1 8 Try.underlying37 HI0.out hz0 hz1 hz2 rfl (by decide) (.slice A1 os.length cc) os.length (os.map (Value.int .i64)) rfl HOWN4.out ⟨w2.heap.size, 0, none⟩ 1 1 [Value.int .i64 x.1.id] rfl rfl HNEWS.out HONE.out hm1 hm2 HM3.out ?_; intro v' w3 hown5 hg5 _)
            have HG5 := Lib.hid hg5
            have HO5 := Lib.hid hown5
            obtain ⟨A', c', rfl⟩ := own_shape hown5
            clear hg5 hown5
            go_wp2
            go_roundw
            case rel =>
              refine ⟨k + 1, os ++ [x.1.id], by omega, by go_num, by rw [Hid, HTK.out]; simp, by simp; omega, ⟨A', c', by simp⟩, ?_, ?_⟩
              · have := HO5.out
                simpa using this
              · exact (HB2.out.alloc HB2.out.size _).grown HG5.out (by have := HM3.out; omega) (fun j hj => (HOWN4.out.lt j hj).1)
            case measure => simp [intOf]; omega
        · obtain rfl : k = l.length := by omega
          have hfin : roundR ls day = (os, 0) := by
            rw [HR.out, HOS.out, List.take_of_length_le (by rw [HLS.out]; simp)]
          have HFIN := Lib.hid hfin
          clear hfin
          go_wp2_with fail
          go_ret2
          exact ⟨A1, cc, by rw [HFIN.out]; rfl, by rw [HFIN.out]; exact sl_ownInt HOWN.out, hBw⟩
  · have hr : roundR ls day = ([], listE ls) := by simp [roundR, hE]
    have HR := Lib.hid hr
    have t0 : (listE ls != 0) = true := by simp [hE]
    clear hr hE
    go_enter Try.func88, Try.ntmps88
    go_wp2_with fail
    refine HSM.out.mono ?_
    rintro e w1 ⟨rfl, hb1⟩
    go_wp2_with fail
    go_ret2
    exact ⟨none, 0, by rw [HR.out]; rfl, by rw [HR.out]; exact Sl.nil, hb1⟩
end Go.Proofs.Ytgopdfbmddkpfaa
namespace Go.Proofs.Ytgopdfbmddkpfaa
open Go.RowKit Go.Fh Go.Ag
def long30 (x : SubM) : Bool := decide (30 < x.1.hol.length)

theorem long30_any (x : SubM) (w : World) :
    Calls Try.prog 36 #[.agg #[.int .i64 x.1.id, .int .i64 x.1.lo, .int .i64 x.1.hi, .int .i64 x.1.days, .slice x.2.1 x.1.hol.length x.2.2]] w fun e w' => e = .returned (.bool (long30 x)) ∧ Below w.heap.size w w' := by
  have hb0 : Below w.heap.size w (w.alloc (.cells #[.int .i64 x.1.id, .int .i64 x.1.lo, .int .i64 x.1.hi, .int .i64 x.1.days, .slice x.2.1 x.1.hol.length x.2.2] 63)) := (Below.refl _ _).alloc (Nat.le_refl _) _
  have HB0 := Lib.hid hb0
  clear hb0
  cases h : long30 x
  · have t1 : decide ((30 : Int) < (x.1.hol.length : Int)) = false := by unfold long30 at h; simp at h ⊢; omega
    go_enter Try.func36, Try.ntmps36
    go_wp2_with fail
    go_ret
    exact ⟨rfl, HB0.out⟩
  · have t1 : decide ((30 : Int) < (x.1.hol.length : Int)) = true := by unfold long30 at h; simp at h ⊢; omega
    go_enter Try.func36, Try.ntmps36
    go_wp2_with fail
    go_ret
    exact ⟨rfl, HB0.out⟩

set_option maxHeartbeats 1000000 in
theorem indexLong_any (A : Option Addr) (c : Nat) (l : List SubM) (w : World) (hl : l.length ≤ 9223372036854775807) (hA : Sl encSub 5 w w.heap.size A l) :
    Calls Try.prog 84 #[.slice A l.length c, .func (.func 36) #[] #[]] w fun e w' => e = .returned (.int .i64 (findI long30 l)) ∧ Below w.heap.size w w' := by
  have HA := Lib.hid hA
  clear hA
  go_enter Try.func84, Try.ntmps84
  go_wp2
  go_loopw [8] (fun i wr => ∃ k : Nat, k ≤ l.length ∧ i = .int .i64 k ∧ (∀ x ∈ l.take k, long30 x = false) ∧ Below w.heap.size w wr) (fun i _ => l.length - (intOf i).toNat)
  case atStart => exact ⟨0, Nat.zero_le _, rfl, by simp, Below.refl _ _⟩
  case round =>
    obtain ⟨k, hk, rfl, hno, hB⟩ := hrel
    have HN := Lib.hid hno
    clear hno
    by_cases hlt : k < l.length
    · obtain ⟨b, off, rfl, hb, c0, c1, c2, c3, c4⟩ := (HA.out.below hB).at5 hlt
      have HC := Lib.hid (long30_any l[k] wr)
      cases hw : long30 l[k]
      · have HW := Lib.hid hw
        rw [hw] at HC
        clear hw
        obtain ⟨x, hx⟩ : ∃ x, x = l[k] := ⟨_, rfl⟩
        rw [← hx] at c0 c1 c2 c3 c4 HC
        have HX := Lib.hid hx
        clear hx
        go_wp2_with fail
        refine HC.out.mono ?_
        rintro e w' ⟨rfl, hb1⟩
        have HB1 := Lib.hid (hB.trans (hb1.mono hB.size))
        clear hb1
        go_wp2_with fail
        go_roundw
        case rel =>
          refine ⟨k + 1, by omega, by go_num, fun x hx => ?_, HB1.out⟩
          rw [List.take_succ_eq_append_getElem hlt, List.mem_append] at hx
          rcases hx with hx | hx
          · exact HN.out x hx
          · simp at hx; subst hx; exact HW.out
        case measure => simp [intOf]; omega
      · have HW := Lib.hid hw
        rw [hw] at HC
        clear hw
        have HF := Lib.hid (findI_hit hlt HN.out HW.out)
        obtain ⟨x, hx⟩ : ∃ x, x = l[k] := ⟨_, rfl⟩
        rw [← hx] at c0 c1 c2 c3 c4 HC
        clear hx
        go_wp2_with fail
        refine HC.out.mono ?_
        rintro e w' ⟨rfl, hb1⟩
        go_wp2_with fail
        go_ret
        exact ⟨ret_int HF.out.symm, hB.trans (hb1.mono hB.size)⟩
    · go_wp2
      go_ret
      exact ⟨ret_int (findI_miss (fun x hx => HN.out x (by rw [List.take_of_length_le (by omega)]; exact hx))).symm, hB⟩

theorem anyLong_any (A : Option Addr) (c : Nat) (l : List SubM) (w : World) (hl : l.length ≤ 9223372036854775807) (hA : Sl encSub 5 w w.heap.size A l) :
    Calls Try.prog 35 #[.slice A l.length c, .func (.func 36) #[] #[]] w fun e w' => e = .returned (.bool (l.any long30)) ∧ Below w.heap.size w w' := by
  have hf := findI_any long30 l
  have HF := Lib.hid hf
  clear hf
  go_enter Try.func35, Try.ntmps35
  go_wp2_with (go_at_call 84; refine (indexLong_any _ _ _ _ hl hA).mono ?_; rintro e w' ⟨rfl, hb⟩)
  go_ret
  exact ⟨ret_bool HF.out, hb⟩

set_option maxRecDepth 20000 in
set_option maxHeartbeats 2000000 in
theorem sameSub_any (s : SubD) (A B : Option Addr) (c d : Nat) (w : World) (hl : s.hol.length ≤ 9223372036854775807) (hA : Sl enc2 2 w w.heap.size A s.hol) (hB : Sl enc2 2 w w.heap.size B s.hol) :
    Calls Try.prog 93 #[.agg #[.int .i64 s.id, .int .i64 s.lo, .int .i64 s.hi, .int .i64 s.days, .slice A s.hol.length c], .agg #[.int .i64 s.id, .int .i64 s.lo, .int .i64 s.hi, .int .i64 s.days, .slice B s.hol.length d]] w fun e w' => e = .returned (.bool true) ∧ Below w.heap.size w w' := by
  have hb0 : Below w.heap.size w ((w.alloc (.cells #[.int .i64 s.id, .int .i64 s.lo, .int .i64 s.hi, .int .i64 s.days, .slice A s.hol.length c] 63)).alloc (.cells #[.int .i64 s.id, .int .i64 s.lo, .int .i64 s.hi, .int .i64 s.days, .slice B s.hol.length d] 63)) := ((Below.refl _ _).alloc (Nat.le_refl _) _).alloc (by simp) _
  have HE := Lib.hid (equalSpan_any A B c d s.hol s.hol _ hl hl ((hA.below hb0).mono hb0.size) ((hB.below hb0).mono hb0.size))
  have HB0 := Lib.hid hb0
  clear hb0 hA hB
  go_enter Try.func93, Try.ntmps93
  go_wp2_with fail
  refine HE.out.mono ?_
  rintro e w' ⟨rfl, hb⟩
  go_wp2_with fail
  go_ret
  exact ⟨ret_bool (by simp), HB0.out.trans (hb.mono HB0.out.size)⟩

set_option maxRecDepth 20000 in
set_option maxHeartbeats 2000000 in
theorem equalSubs_any (A B : Option Addr) (c d : Nat) (l m : List SubM) (w : World) (hl : l.length ≤ 9223372036854775807) (hlm : l.map Prod.fst = m.map Prod.fst) (hh : ∀ x ∈ l, x.1.hol.length ≤ 1000) (hA : Sl encSub 5 w w.heap.size A l) (hB : Sl encSub 5 w w.heap.size B m)
    (hI : ∀ x ∈ l, Sl enc2 2 w w.heap.size x.2.1 x.1.hol) (hJ : ∀ x ∈ m, Sl enc2 2 w w.heap.size x.2.1 x.1.hol) :
    Calls Try.prog 92 #[.slice A l.length c, .slice B m.length d, .func (.func 93) #[] #[]] w fun e w' => e = .returned (.bool true) ∧ Below w.heap.size w w' := by
  have hlen : l.length = m.length := by have := congrArg List.length hlm; simpa using this
  have hb0 : ((l.length : Int) != (m.length : Int)) = false := by simp [hlen]
  have HL := Lib.hid hlen
  have HLM := Lib.hid hlm
  have HA := Lib.hid hA
  have HB := Lib.hid hB
  have HI := Lib.hid hI
  have HJ := Lib.hid hJ
  have HH := Lib.hid hh
  clear hlen hlm hA hB hI hJ hh
  go_enter Try.func92, Try.ntmps92
  go_wp2_with fail
  go_loopw [17] (fun i wr => ∃ k : Nat, k ≤ l.length ∧ i = .int .i64 k ∧ Below w.heap.size w wr) (fun i _ => l.length - (intOf i).toNat)
  case atStart => exact ⟨0, Nat.zero_le _, rfl, Below.refl _ _⟩
  case round =>
    obtain ⟨k, hk, rfl, hW⟩ := hrel
    by_cases hlt : k < l.length
    · have hlt2 : k < m.length := by have := HL.out; omega
      obtain ⟨b, off, rfl, hb, c0, c1, c2, c3, c4⟩ := (HA.out.below hW).at5 hlt
      obtain ⟨b2, off2, rfl, hb2, e0, e1, e2, e3, e4⟩ := (HB.out.below hW).at5 hlt2
      have hxy : l[k].1 = m[k].1 := by
        have h1 : (l.map Prod.fst)[k]? = some l[k].1 := by simp [hlt]
        have h2 : (m.map Prod.fst)[k]? = some m[k].1 := by simp [hlt2]
        rw [HLM.out, h2] at h1
        exact (Option.some.inj h1).symm
      have hxI := HI.out _ (List.getElem_mem hlt)
      have hyI := HJ.out _ (List.getElem_mem hlt2)
      have hxh := HH.out _ (List.getElem_mem hlt)
      obtain ⟨⟨x, xA, xc⟩, hx⟩ : ∃ x, x = l[k] := ⟨_, rfl⟩
      obtain ⟨⟨y, yA, yc⟩, hy⟩ : ∃ y, y = m[k] := ⟨_, rfl⟩
      rw [← hx] at c0 c1 c2 c3 c4 hxy hxI hxh
      rw [← hy] at e0 e1 e2 e3 e4 hxy hyI
      dsimp only at c0 c1 c2 c3 c4 e0 e1 e2 e3 e4 hxy hxI hyI hxh
      subst hxy
      have hbw : b < wr.heap.size := by have := hW.size; omega
      have hbw2 : b2 < wr.heap.size := by have := hW.size; omega
      have hBx := (hW.alloc hW.size (.cells #[.int .i64 x.id, .int .i64 x.lo, .int .i64 x.hi, .int .i64 x.days, .slice xA x.hol.length xc] 63)).alloc (by have := hW.size; simp; omega) (.cells #[.int .i64 x.id, .int .i64 x.lo, .int .i64 x.hi, .int .i64 x.days, .slice yA x.hol.length yc] 63)
      have HC := Lib.hid (sameSub_any x xA yA xc yc _ (by omega) ((hxI.below hBx).mono hBx.size) ((hyI.below hBx).mono hBx.size))
      have HBX := Lib.hid hBx
      clear hx hy hxI hyI hxh hBx
      go_wp2_with fail
      refine HC.out.mono ?_
      rintro e w' ⟨rfl, hb1⟩
      have HB1 := Lib.hid (HBX.out.trans (hb1.mono HBX.out.size))
      clear hb1
      go_wp2_with fail
      go_roundw
      case rel => exact ⟨k + 1, by omega, by go_num, HB1.out⟩
      case measure => simp [intOf]; omega
    · go_wp2_with fail
      go_ret
      exact ⟨rfl, hW⟩
end Go.Proofs.Ytgopdfbmddkpfaa
namespace Go.Proofs.Ytgopdfbmddkpfaa
open Go.RowKit Go.Fh Go.Ag

theorem info169 : (Try.prog.info? 169).map (fun i => (i.zero, i.size, i.bytes)) = some (some (.agg #[.int .i64 0, .int .i64 0]), 2, 16) := by kernel_rfl
def InnerAt (B : Nat) (W : World) (y : SubM) : Prop := W.ownsRow B 88 2 (.slice y.2.1 y.1.hol.length y.2.2) y.1.hol.length (y.1.hol.flatMap enc2)
theorem InnerAt.sl {B : Nat} {W : World} {y : SubM} (h : InnerAt B W y) : Sl enc2 2 W W.heap.size y.2.1 y.1.hol := Sl.of_own (fun _ => rfl) h

set_option maxRecDepth 20000 in
set_option maxHeartbeats 8000000 in
theorem readers_any (l : List SubM) (A : Option Addr) (ca : Nat) (t : TariffD) (cm : List (Int × Int)) (C : Option Addr) (cc : Nat) (day a b : Int) (w : World) (hl : l.length ≤ 600) (hcl : cm.length ≤ 600) (hh : ∀ x ∈ l, x.1.hol.length ≤ 30)
    (hA : Sl encSub 5 w w.heap.size A l) (hI : ∀ x ∈ l, Sl enc2 2 w w.heap.size x.2.1 x.1.hol) (hC : Sl enc2 2 w w.heap.size C cm) :
    Calls Try.prog 37 #[.slice A l.length ca, .agg (tarV t), .slice C cm.length cc, .int .i64 day, .int .i64 a, .int .i64 b] w fun e w' => e = .returned (.bool true) ∧ Below w.heap.size w w' := by
  obtain ⟨i0, hi0, hz0, hz1, hz2⟩ := info_parts info63'
  obtain ⟨j0, hj0, hy0, hy1, hy2⟩ := info_parts info161
  have HI0 := Lib.hid hi0
  have HJ0 := Lib.hid hj0
  have HA := Lib.hid hA
  have HI := Lib.hid hI
  have HC := Lib.hid hC
  have HH := Lib.hid hh
  obtain ⟨w1, hw1⟩ : ∃ W, W = w.alloc (.cells (tarV t) 36) := ⟨_, rfl⟩
  have hb1 : Below w.heap.size w w1 := by rw [hw1]; exact (Below.refl _ _).alloc (Nat.le_refl _) _
  have kT : Blk w1 w.heap.size 36 (tarV t) := by rw [hw1]; exact Blk.new _ _ _
  have KT := Lib.hid kT
  have HB1 := Lib.hid hb1
  have HW1 := Lib.hid hw1
  clear hi0 hj0 hA hI hC hh hb1 kT hw1
  unfold tarV at *
  go_enter Try.func37, Try.ntmps37
  go_upto_region 3 with fail
  rw [← HW1.out]
  go_wp2_with fail
  have hgt : w.heap.size < w1.heap.size := KT.out.lt
  go_loopw [13, 14, 38] (fun p q i wr => ∃ (k : Nat) (lo lr : List SubM), k ≤ l.length ∧ i = .int .i64 k ∧ (∃ A' c', p = .slice A' k c') ∧ (∃ A' c', q = .slice A' k c') ∧ Hid (lo.map Prod.fst = (l.take k).map Prod.fst) ∧ Hid (lr.map Prod.fst = (l.take k).map Prod.fst) ∧ Hid (wr.ownsRow w1.heap.size 63 5 p k (lo.flatMap encSub)) ∧ Hid (wr.ownsRow w1.heap.size 161 5 q k (lr.flatMap encSub)) ∧ Hid (∀ y ∈ lo, InnerAt w1.heap.size wr y) ∧ Hid (∀ y ∈ lr, InnerAt w1.heap.size wr y) ∧ Below w1.heap.size w1 wr) (fun _ _ i _ => l.length - (intOf i).toNat)
  case atStart => exact ⟨0, [], [], Nat.zero_le _, rfl, ⟨none, 0, rfl⟩, ⟨none, 0, rfl⟩, rfl, rfl, World.ownsRow_nil _ _ _ _, World.ownsRow_nil _ _ _ _, by simp [Hid], by simp [Hid], Below.refl _ _⟩
  case round =>
    obtain ⟨k, lo, lr, hk, rfl, ⟨A1, c1, rfl⟩, ⟨A2, c2, rfl⟩, HLO, HLR, HO1, HO2, HI1, HI2, hB⟩ := hrel
    by_cases hlt : k < l.length
    · have hBw := HB1.out.trans (hB.mono HB1.out.size)
      obtain ⟨lb, off, rfl, hlb, d0, d1, d2, d3, d4⟩ := (HA.out.below hBw).at5 hlt
      have hxI := HI.out _ (List.getElem_mem hlt)
      have hxh := HH.out _ (List.getElem_mem hlt)
      obtain ⟨⟨x, xA, xc⟩, hx⟩ : ∃ x, x = l[k] := ⟨_, rfl⟩
      rw [← hx] at d0 d1 d2 d3 d4 hxI hxh
      dsimp only at d0 d1 d2 d3 d4 hxI hxh
      have hlbw : lb < wr.heap.size := by have := hBw.size; omega
      obtain ⟨w2, hw2⟩ : ∃ W, W = wr.alloc (.cells #[.int .i64 x.id, .int .i64 x.lo, .int .i64 x.hi, .int .i64 x.days, .slice xA x.hol.length xc] 63) := ⟨_, rfl⟩
      have hB2 : Below w1.heap.size w1 w2 := by rw [hw2]; exact hB.alloc hB.size _
      have hr2 : Below wr.heap.size wr w2 := by rw [hw2]; exact (Below.refl _ _).alloc (Nat.le_refl _) _
      have hBw2 := HB1.out.trans (hB2.mono HB1.out.size)
      have HS := Lib.hid (subscriber_any x xA xc w2 (by omega) ((hxI.below hBw2).mono hBw2.size))
      have HX := Lib.hid hx
      have HW2 := Lib.hid hw2
      have HB2 := Lib.hid hB2
      have HR2 := Lib.hid hr2
      clear hx hw2 hB2 hBw2 hxI hr2
      go_wp2_with fail
      rw [← HW2.out]
      refine HS.out.mono ?_
      rintro e w3 ⟨B1, B2, f1, f2, rfl, ho1, ho2, hb3⟩
      obtain ⟨w4, hw4⟩ : ∃ W, W = (w3.alloc (.cells #[.int .i64 x.id, .int .i64 x.lo, .int .i64 x.hi, .int .i64 x.days, .slice B1 x.hol.length f1] 63)).alloc (.cells #[.int .i64 x.id, .int .i64 x.lo, .int .i64 x.hi, .int .i64 x.days, .slice B2 x.hol.length f2] 161) := ⟨_, rfl⟩
      have hr3 := HR2.out.trans (hb3.mono HR2.out.size)
      have h34 : Below w3.heap.size w3 w4 := by rw [hw4]; exact ((Below.refl _ _).alloc (Nat.le_refl _) _).alloc (by simp) _
      have hr4 := hr3.trans (h34.mono hr3.size)
      obtain ⟨gP, hgP⟩ : ∃ g, g = w3.heap.size := ⟨_, rfl⟩
      obtain ⟨gQ, hgQ⟩ : ∃ g, g = w3.heap.size + 1 := ⟨_, rfl⟩
      have kP : Blk w4 gP 63 #[.int .i64 x.id, .int .i64 x.lo, .int .i64 x.hi, .int .i64 x.days, .slice B1 x.hol.length f1] := by rw [hw4, hgP]; exact (Blk.new _ _ _).alloc _
      have kQ : Blk w4 gQ 161 #[.int .i64 x.id, .int .i64 x.lo, .int .i64 x.hi, .int .i64 x.days, .slice B2 x.hol.length f2] := by
        rw [hw4, hgQ]
        have h0 := Blk.new (w3.alloc (.cells #[.int .i64 x.id, .int .i64 x.lo, .int .i64 x.hi, .int .i64 x.days, .slice B1 x.hol.length f1] 63)) 161 #[.int .i64 x.id, .int .i64 x.lo, .int .i64 x.hi, .int .i64 x.days, .slice B2 x.hol.length f2]
        rw [World.size_alloc] at h0
        exact h0
      have HW4 := Lib.hid hw4
      have HGP := Lib.hid hgP
      have HGQ := Lib.hid hgQ
      have KP := Lib.hid kP
      have KQ := Lib.hid kQ
      have R4 := Lib.hid hr4
      have hm1 : w1.heap.size ≤ w2.heap.size := HB2.out.size
      have weak : ∀ {W : World} {v : Value} {n : Nat} {xs : List Value}, W.ownsRow w2.heap.size 88 2 v n xs → W.ownsRow w1.heap.size 88 2 v n xs := fun h => ⟨h.1, h.2.imp id (fun ⟨g, cap, cur, e, hb, r⟩ => ⟨g, cap, cur, e, Nat.le_trans hm1 hb, r⟩)⟩
      have N1 : Hid (InnerAt w1.heap.size w4 (x, B1, f1)) := own_belowV (weak ho1) h34
      have N2 : Hid (InnerAt w1.heap.size w4 (x, B2, f2)) := own_belowV (weak ho2) h34
      have O1 : Hid (w4.ownsRow w1.heap.size 63 5 (.slice A1 k c1) k (lo.flatMap encSub)) := own_belowV HO1.out hr4
      have O2 : Hid (w4.ownsRow w1.heap.size 161 5 (.slice A2 k c2) k (lr.flatMap encSub)) := own_belowV HO2.out hr4
      have P1 : Hid (∀ y ∈ lo, InnerAt w1.heap.size w4 y) := fun y hy => own_belowV (HI1.out y hy) hr4
      have P2 : Hid (∀ y ∈ lr, InnerAt w1.heap.size w4 y) := fun y hy => own_belowV (HI2.out y hy) hr4
      have hB4 : Below w1.heap.size w1 w4 := hB.trans (hr4.mono hB.size)
      have HB4 := Lib.hid hB4
      have hq1 := fun j hj => (HO1.out.lt j hj).2
      have hq2 := fun j hj => (HO2.out.lt j hj).2
      have hsz := hr3.size
      have NN : Hid (some gP ≠ (Value.slice A1 k c1).ownBlock ∧ some gP ≠ (Value.slice A2 k c2).ownBlock ∧ some gQ ≠ (Value.slice A1 k c1).ownBlock ∧ some gQ ≠ (Value.slice A2 k c2).ownBlock) := ⟨fun e => by have := hq1 _ e.symm; omega, fun e => by have := hq2 _ e.symm; omega, fun e => by have := hq1 _ e.symm; omega, fun e => by have := hq2 _ e.symm; omega⟩
      clear hq1 hq2 hsz hw4 hr3 h34 hr4 hgP hgQ kP kQ weak ho1 ho2 hb3 hB4 d0 d1 d2 d3 d4 HO1 HO2 HI1 HI2
      go_upto_region 7 with fail
      rw [← HW4.out, ← HGQ.out, ← HGP.out]
      refine readers7_wp x B1 B2 A1 A2 f1 f2 c1 c2 k gP gQ w1.heap.size (lo.flatMap encSub) (lr.flatMap encSub) w4 KP.out KQ.out O1.out O2.out (by omega) HB4.out.size NN.out.1 NN.out.2.1 NN.out.2.2.1 NN.out.2.2.2 _ _ _ _ _ _ _ _ _ _ _ _ _ _ _ _ _ _ _ _ _ _ _ _ _ _ _ _ _ _ _ _ _ _ _ _ _ _ _ _ _ _ _ _ _ _ _ _ _ _ _ _ _ _ _ _ _ _ _ _ _ _ _ _ _ _ _ _ _ _ _ _ _ _ _ _ _ _ _ _ _ _ _ _ _ _ _ _ _ _ _ _ _ _ _ _ _ _ _ _ _ _ _ _ _ _ _ _ _ _ _ _ _ _ _ _ _ _ _ _ _ _ _ _ _ _ _ _ _ _ _ _ _ _ _ _ _ _ _ _ _ _ _ _ _ _ _ _ _ _ _ _ _ _ _ _ _ _ _ _ _ _ _ _ _ _ _ _ _ _ _ _ _ _ _ _ _ _ _ _ _ _ _ _ _ _ _ ?_
      intro A1' A2' c1' c2' wc v47 v48 v49 v50 v51 v52 v53 v54 hp hq hG
      have hp2 : wc.ownsRow w1.heap.size 63 5 (.slice A1' (k + 1) c1') (k + 1) ((lo ++ [(x, B1, f1)]).flatMap encSub) := by rw [List.flatMap_append]; simpa [encSub] using hp
      have hq2 : wc.ownsRow w1.heap.size 161 5 (.slice A2' (k + 1) c2') (k + 1) ((lr ++ [(x, B2, f2)]).flatMap encSub) := by rw [List.flatMap_append]; simpa [encSub] using hq
      have HP := Lib.hid hp2
      have HQ := Lib.hid hq2
      have HG := Lib.hid hG
      clear hp hq hG hp2 hq2
      go_wp2_with fail
      go_roundw
      case rel =>
        have keep : ∀ y, InnerAt w1.heap.size w4 y → InnerAt w1.heap.size wc y := fun y hy => Grown2.own hy HG.out (own_own_ne hy O1.out (by decide)) (own_own_ne hy O2.out (by decide))
        refine ⟨k + 1, lo ++ [(x, B1, f1)], lr ++ [(x, B2, f2)], by omega, by go_num, ⟨A1', c1', rfl⟩, ⟨A2', c2', rfl⟩, ?_, ?_, HP.out, HQ.out, ?_, ?_, ?_⟩
        · unfold Hid; rw [List.map_append, List.take_succ_eq_append_getElem hlt, List.map_append, HLO.out, ← HX.out]; rfl
        · unfold Hid; rw [List.map_append, List.take_succ_eq_append_getElem hlt, List.map_append, HLR.out, ← HX.out]; rfl
        · intro y hy
          rcases List.mem_append.1 hy with hy | hy
          · exact keep y (P1.out y hy)
          · simp only [List.mem_singleton] at hy; subst hy; exact keep _ N1.out
        · intro y hy
          rcases List.mem_append.1 hy with hy | hy
          · exact keep y (P2.out y hy)
          · simp only [List.mem_singleton] at hy; subst hy; exact keep _ N2.out
        · exact Grown2.below HB4.out HG.out HB4.out.size (fun j hj => (O1.out.lt j hj).1) (fun j hj => (O2.out.lt j hj).1)
      case measure => simp [intOf]; omega
    · obtain rfl : k = l.length := by omega
      rw [List.take_of_length_le (Nat.le_refl _)] at HLO HLR
      obtain ⟨wq, hwq⟩ : ∃ wq, wq = wr := ⟨_, rfl⟩
      rw [← hwq] at HO1 HO2 HI1 HI2 hB ⊢
      have hlo : lo.length = l.length := by have := congrArg List.length HLO.out; simpa using this
      have hlr : lr.length = l.length := by have := congrArg List.length HLR.out; simpa using this
      have hS1 : Sl encSub 5 wq wq.heap.size A1 lo := Sl.of_own (base := w1.heap.size) (e := 63) (c := c1) (fun _ => rfl) (by rw [hlo]; exact HO1.out)
      have hS2 : Sl encSub 5 wq wq.heap.size A2 lr := Sl.of_own (base := w1.heap.size) (e := 161) (c := c2) (fun _ => rfl) (by rw [hlr]; exact HO2.out)
      have hJ1 : ∀ y ∈ lo, Sl enc2 2 wq wq.heap.size y.2.1 y.1.hol := fun y hy => (HI1.out y hy).sl
      have hJ2 : ∀ y ∈ lr, Sl enc2 2 wq wq.heap.size y.2.1 y.1.hol := fun y hy => (HI2.out y hy).sl
      have hcap : (Value.slice A1 l.length c1 = .slice none 0 0 ∧ l.length = 0) ∨ ∃ g, A1 = some ⟨g, 0, none⟩ ∧ l.length ≤ c1 := by
        rcases HO1.out.2 with ⟨e, h0⟩ | ⟨g, cap, cur, e, _, _, hle, _⟩
        · exact .inl ⟨e, h0⟩
        · injection e with e1 e2 e3
          exact .inr ⟨g, e1, by omega⟩
      have HS1 := Lib.hid hS1
      have HS2 := Lib.hid hS2
      have HJ1 := Lib.hid hJ1
      have HJ2 := Lib.hid hJ2
      have HBQ := Lib.hid hB
      have HCAP := Lib.hid hcap
      have hlh : ∀ y ∈ lo, y.1.hol.length ≤ 30 := by
        intro y hy
        have : y.1 ∈ l.map Prod.fst := by rw [← HLO.out]; exact List.mem_map.2 ⟨y, hy, rfl⟩
        obtain ⟨z, hz, e⟩ := List.mem_map.1 this
        have := HH.out z hz
        rw [e] at this
        exact this
      have hrh : ∀ y ∈ lr, y.1.hol.length ≤ 30 := by
        intro y hy
        have : y.1 ∈ l.map Prod.fst := by rw [← HLR.out]; exact List.mem_map.2 ⟨y, hy, rfl⟩
        obtain ⟨z, hz, e⟩ := List.mem_map.1 this
        have := HH.out z hz
        rw [e] at this
        exact this
      have HLH := Lib.hid hlh
      have HRH := Lib.hid hrh
      have HLL := Lib.hid (And.intro hlo hlr)
      clear hwq hlo hlr hS1 hS2 hJ1 hJ2 hB hcap HO1 HO2 HI1 HI2 hlh hrh
      -- from here on: own and ref
      obtain ⟨m, hmn, hm1, hm2⟩ : ∃ m : Nat, min (l.length : Int) 20 = (m : Int) ∧ m ≤ l.length ∧ m ≤ 20 := ⟨min l.length 20, by omega, by omega, by omega⟩
      go_upto_region 9 with fail
      go_cut [60, 61, 62] (fun p q z wx => (∃ A' c', p = .slice A' m c') ∧ q = .int .i64 m ∧ z = .int .i64 0 ∧ wx = wq)
      case first =>
        rcases HCAP.out with ⟨e, h0⟩ | ⟨g, rfl, hle⟩
        · injection e with e1 e2 e3
          subst e1
          have hm0 : m = 0 := by omega
          go_wp2_with fail
          go_meet
          exact ⟨⟨none, 0, by subst hm0; rfl⟩, by subst hm0; rfl, rfl, rfl⟩
        · go_wp2_with fail
          go_meet
          exact ⟨⟨_, _, rfl⟩, rfl, rfl, rfl⟩
      case rest =>
        obtain ⟨⟨A', c', rfl⟩, rfl, rfl, hwc⟩ := hcut
        rw [hwc]
        clear hmn hwc
        go_wp2_with fail
        go_loopw [62] (fun i wr => ∃ j : Nat, j ≤ m ∧ i = .int .i64 j ∧ Below w1.heap.size w1 wr ∧ Hid (Below wq.heap.size wq wr)) (fun i _ => m - (intOf i).toNat)
        case atStart => exact ⟨0, Nat.zero_le _, rfl, HBQ.out, Below.refl _ _⟩
        case round =>
          obtain ⟨j, hj, rfl, hB, HQR⟩ := hrel
          by_cases hlt : j < m
          · have hl1 : j < lo.length := by have := HLL.out.1; omega
            have hl2 : j < lr.length := by have := HLL.out.2; omega
            obtain ⟨b1, of1, rfl, hb1', d0, d1, d2, d3, d4⟩ := (HS1.out.below HQR.out).at5 hl1
            obtain ⟨b2, of2, rfl, hb2', e0, e1, e2, e3, e4⟩ := (HS2.out.below HQR.out).at5 hl2
            have hxy : lr[j].1 = lo[j].1 := by
              have h1 : (lo.map Prod.fst)[j]? = some lo[j].1 := by simp [hl1]
              have h2 : (lr.map Prod.fst)[j]? = some lr[j].1 := by simp [hl2]
              rw [HLO.out, ← HLR.out, h2] at h1
              exact Option.some.inj h1
            have hxI := HJ1.out _ (List.getElem_mem hl1)
            have hyI := HJ2.out _ (List.getElem_mem hl2)
            have hxh := HLH.out _ (List.getElem_mem hl1)
            obtain ⟨⟨x, xA, xc⟩, hx⟩ : ∃ x, x = lo[j] := ⟨_, rfl⟩
            obtain ⟨⟨y, yA, yc⟩, hy⟩ : ∃ y, y = lr[j] := ⟨_, rfl⟩
            rw [← hx] at d0 d1 d2 d3 d4 hxy hxI hxh
            rw [← hy] at e0 e1 e2 e3 e4 hxy hyI
            dsimp only at d0 d1 d2 d3 d4 e0 e1 e2 e3 e4 hxy hxI hyI hxh
            subst hxy
            have hz1 : b1 < wr.heap.size := by have := HQR.out.size; omega
            have hz2 : b2 < wr.heap.size := by have := HQR.out.size; omega
            have HG := Lib.hid (getsR_any y xA xc day wr (by omega) ((hxI.below HQR.out).mono HQR.out.size))
            have HXI := Lib.hid hxI
            have HYI := Lib.hid hyI
            have HXH := Lib.hid hxh
            have HBR := Lib.hid hB
            have D := Lib.hid (And.intro d0 (And.intro d1 (And.intro d2 (And.intro d3 d4))))
            have E := Lib.hid (And.intro e0 (And.intro e1 (And.intro e2 (And.intro e3 e4))))
            clear hx hy hxI hyI hxh hB e0 e1 e2 e3 e4
            go_wp2_with fail
            refine HG.out.mono ?_
            rintro e w5 ⟨rfl, hb5⟩
            have q5 := HQR.out.trans (hb5.mono HQR.out.size)
            have HG2 := Lib.hid (rgetsR_any y yA yc day w5 (by have := HXH.out; omega) ((HYI.out.below q5).mono q5.size))
            have e0 := (hb5.cell (p := ⟨b2, of2 + j * 5, none⟩) hz2).trans E.out.1
            have e1 := (hb5.cell (p := ⟨b2, of2 + j * 5 + 1, none⟩) hz2).trans E.out.2.1
            have e2 := (hb5.cell (p := ⟨b2, of2 + j * 5 + 2, none⟩) hz2).trans E.out.2.2.1
            have e3 := (hb5.cell (p := ⟨b2, of2 + j * 5 + 3, none⟩) hz2).trans E.out.2.2.2.1
            have e4 := (hb5.cell (p := ⟨b2, of2 + j * 5 + 4, none⟩) hz2).trans E.out.2.2.2.2
            have H5 := Lib.hid hb5
            clear hb5 q5 d0 d1 d2 d3 d4
            generalize getsR y day = gr at *
            go_wp2_with fail
            refine HG2.out.mono ?_
            rintro e w6 ⟨rfl, hb6⟩
            have h6 := H5.out.trans (hb6.mono H5.out.size)
            have q6 := HQR.out.trans (h6.mono HQR.out.size)
            have HG3 := Lib.hid (copiesR_any y xA xc a b w6 (by have := HXH.out; omega) ((HXI.out.below q6).mono q6.size))
            unfold subV at HG3
            have d0 := (h6.cell (p := ⟨b1, of1 + j * 5, none⟩) hz1).trans D.out.1
            have d1 := (h6.cell (p := ⟨b1, of1 + j * 5 + 1, none⟩) hz1).trans D.out.2.1
            have d2 := (h6.cell (p := ⟨b1, of1 + j * 5 + 2, none⟩) hz1).trans D.out.2.2.1
            have d3 := (h6.cell (p := ⟨b1, of1 + j * 5 + 3, none⟩) hz1).trans D.out.2.2.2.1
            have d4 := (h6.cell (p := ⟨b1, of1 + j * 5 + 4, none⟩) hz1).trans D.out.2.2.2.2
            have H6 := Lib.hid h6
            clear h6 hb6 q6 e0 e1 e2 e3 e4
            have t1 : (gr.1 != gr.1) = false := by simp
            have t2 : (gr.2 != gr.2) = false := by simp
            go_wp2_with fail
            refine HG3.out.mono ?_
            rintro e w7 ⟨rfl, hb7⟩
            have h7 := H6.out.trans (hb7.mono H6.out.size)
            have q7 := HQR.out.trans (h7.mono HQR.out.size)
            have HG4 := Lib.hid (rcopiesR_any y yA yc a b w7 (by have := HXH.out; omega) ((HYI.out.below q7).mono q7.size))
            have e0 := (h7.cell (p := ⟨b2, of2 + j * 5, none⟩) hz2).trans E.out.1
            have e1 := (h7.cell (p := ⟨b2, of2 + j * 5 + 1, none⟩) hz2).trans E.out.2.1
            have e2 := (h7.cell (p := ⟨b2, of2 + j * 5 + 2, none⟩) hz2).trans E.out.2.2.1
            have e3 := (h7.cell (p := ⟨b2, of2 + j * 5 + 3, none⟩) hz2).trans E.out.2.2.2.1
            have e4 := (h7.cell (p := ⟨b2, of2 + j * 5 + 4, none⟩) hz2).trans E.out.2.2.2.2
            have H7 := Lib.hid h7
            clear h7 hb7 q7 d0 d1 d2 d3 d4 t1 t2
            generalize copiesR y a b = cr at *
            go_wp2_with fail
            refine HG4.out.mono ?_
            rintro e w8 ⟨rfl, hb8⟩
            have H8 := Lib.hid (H7.out.trans (hb8.mono H7.out.size))
            clear hb8 e0 e1 e2 e3 e4
            have t1 : (cr.1 != cr.1) = false := by simp
            have t2 : (cr.2 != cr.2) = false := by simp
            go_wp2_with fail
            go_roundw
            case rel => exact ⟨j + 1, by omega, by go_num, HBR.out.trans (H8.out.mono HBR.out.size), HQR.out.trans (H8.out.mono HQR.out.size)⟩
            case measure => simp [intOf]; omega
          · obtain rfl : j = m := by omega
            have HBR := Lib.hid hB
            obtain ⟨w5, hw5⟩ : ∃ w5, w5 = wr := ⟨_, rfl⟩
            rw [← hw5] at HBR HQR ⊢
            clear hw5 hB hlt
            obtain ⟨ls, hls⟩ : ∃ ls, ls = l.map Prod.fst := ⟨_, rfl⟩
            have hR1 := round_any A1 c1 lo day w5 (by have := HLL.out.1; omega) (fun y hy => by have := HLH.out y hy; omega) ((HS1.out.below HQR.out).mono HQR.out.size) (fun y hy => ((HJ1.out y hy).below HQR.out).mono HQR.out.size)
            rw [HLO.out, HLL.out.1, ← hls] at hR1
            have hR2 := fun W (hW : Below wq.heap.size wq W) => rround_any A2 c2 lr day W (by have := HLL.out.2; omega) (fun y hy => by have := HRH.out y hy; omega) ((HS2.out.below hW).mono hW.size) (fun y hy => ((HJ2.out y hy).below hW).mono hW.size)
            rw [HLR.out, HLL.out.2, ← hls] at hR2
            have HR1 := Lib.hid hR1
            have HR2 := Lib.hid hR2
            have HLS := Lib.hid hls
            clear hR1 hR2 hls
            go_wp2_with fail
            refine HR1.out.mono ?_
            have hrl : (roundR ls day).1.length ≤ 600 := by
              have h1 : ls.length ≤ 600 := by rw [HLS.out]; simpa using hl
              have h2 := List.length_filter_le (fun s => getsB s day) ls
              unfold roundR
              split
              · simp
              · split
                · simp
                · simp only [List.length_map]; omega
            generalize roundR ls day = rd at *
            rintro e w6 ⟨E1, g1, rfl, hE1, hb6⟩
            have q6 := HQR.out.trans (hb6.mono HQR.out.size)
            have Q6 := Lib.hid q6
            have HE1 := Lib.hid hE1
            clear hb6 q6 hE1
            go_wp2_with fail
            refine (HR2.out _ Q6.out).mono ?_
            rintro e w7 ⟨E2, g2, rfl, hE2, hb7⟩
            have q7 := Q6.out.trans (hb7.mono Q6.out.size)
            have HEQ := Lib.hid (equalInts_any E1 E2 g1 g2 rd.1 rd.1 w7 (by omega) (by omega) ((HE1.out.below hb7).mono hb7.size) hE2)
            have Q7 := Lib.hid q7
            have t1 : (rd.2 != rd.2) = false := by simp
            have hd : decide (rd.1 = rd.1) = true := by simp
            rw [hd] at HEQ
            clear hb7 q7 hE2 hd hrl
            go_wp2_with fail
            refine HEQ.out.mono ?_
            rintro e w8 ⟨rfl, hb8⟩
            have Q8 := Lib.hid (Q7.out.trans (hb8.mono Q7.out.size))
            clear hb8
            have hcw := fun W (hW : Below wq.heap.size wq W) => (HC.out.below (HB1.out.trans ((HBQ.out.trans (hW.mono HBQ.out.size)).mono HB1.out.size)))
            have HCW := Lib.hid (fun W (hW : Below wq.heap.size wq W) => (hcw W hW).mono (show w.heap.size ≤ W.heap.size by have := HB1.out.size; have := HBQ.out.size; have := hW.size; omega))
            clear hcw
            have hcl2 := cloneComplaint_any C cc cm w8 (by omega) (HCW.out _ Q8.out)
            have HCL := Lib.hid hcl2
            clear hcl2
            go_wp2_with fail
            refine HCL.out.mono ?_
            rintro e w9 ⟨D1, h1, rfl, hD1, hb9⟩
            have HD1 := Lib.hid hD1
            have Q9 := Lib.hid (Q8.out.trans (hb9.mono Q8.out.size))
            clear hb9 hD1
            obtain ⟨r0, hr0, hx0, hx1, hx2⟩ := info_parts info169
            have HRI := Lib.hid hr0
            clear hr0 t1
            go_wp2_with fail
            go_loopw [31, 145] (fun p i wr => ∃ j : Nat, j ≤ cm.length ∧ i = .int .i64 j ∧ (∃ A' c', p = .slice A' j c') ∧ Hid (wr.ownsRow w9.heap.size 169 2 p j ((cm.take j).flatMap enc2)) ∧ Hid (Below w9.heap.size w9 wr)) (fun _ i _ => cm.length - (intOf i).toNat)
            case atStart => exact ⟨0, Nat.zero_le _, rfl, ⟨none, 0, rfl⟩, World.ownsRow_nil _ _ _ _, Below.refl _ _⟩
            case round =>
              obtain ⟨j, hj, rfl, ⟨G1, gc, rfl⟩, HOW, H9R⟩ := hrel
              by_cases hlt : j < cm.length
              · have hq := Q9.out.trans (H9R.out.mono Q9.out.size)
                obtain ⟨cb, co, rfl, hcb, d0, d1⟩ := (HCW.out _ hq).at2 hlt
                obtain ⟨z, hz⟩ : ∃ z, z = cm[j] := ⟨_, rfl⟩
                rw [← hz] at d0 d1
                have HZ := Lib.hid hz
                have hown2 := (HOW.out.alloc (.cells #[.int .i64 z.1, .int .i64 z.2] 66)).alloc (.cells #[.int .i64 z.1, .int .i64 z.2] 169)
                have HOWN2 := Lib.hid hown2
                have HNEWS := Lib.hid (news_of2 wr (.cells #[.int .i64 z.1, .int .i64 z.2] 66) 169 #[.int .i64 z.1, .int .i64 z.2])
                have hone : ∀ u ∈ enc2 z, u.oneCell' = true := by intro u hu; simp [enc2] at hu; rcases hu with rfl | rfl <;> rfl
                have hm1' : j + 1 ≤ maxLen := by simp only [maxLen]; omega
                have hm2' : (j + 1) * 16 ≤ 140737488355328 := by omega
                have hm3' : w9.heap.size ≤ ((wr.alloc (.cells #[.int .i64 z.1, .int .i64 z.2] 66)).alloc (.cells #[.int .i64 z.1, .int .i64 z.2] 169)).heap.size := by have := H9R.out.size; simp; omega
                have HM3 := Lib.hid hm3'
                have HONE := Lib.hid hone
                have hB9 := (H9R.out.alloc H9R.out.size (.cells #[.int .i64 z.1, .int .i64 z.2] 66)).alloc (by have := H9R.out.size; simp; omega) (.cells #[.int .i64 z.1, .int .i64 z.2] 169)
                have HB9 := Lib.hid hB9
                clear hown2 hm3' hone hz hB9 hq
                go_wp2_with (at_builtin; refine wpList_append_own _ rfl (.tmp 149) (.tmp 151) 168 rfl w9.heap.size 169 r0 (.agg #[.int .i64 0, .int .i64 0]) 2 16 Try.underlying168 HRI.out hx0 hx1 hx2 rfl (by decide) (.slice G1 j gc) j ((cm.take j).flatMap enc2) rfl HOWN2.out ⟨wr.heap.size + 1, 0, none⟩ 1 1 (enc2 z) rfl rfl HNEWS.out HONE.out hm1' hm2' HM3.out ?_; intro v' wa hown1 hg1 _)
                have HG1 := Lib.hid hg1
                have HO1 := Lib.hid hown1
                obtain ⟨A'', c'', rfl⟩ := own_shape hown1
                clear hg1 hown1
                go_wp2
                go_roundw
                case rel =>
                  refine ⟨j + 1, by omega, by go_num, ⟨A'', c'', rfl⟩, ?_, ?_⟩
                  · unfold Hid; rw [List.take_succ_eq_append_getElem hlt, List.flatMap_append, ← HZ.out]; simpa using HO1.out
                  · exact HB9.out.grown HG1.out HM3.out (fun i hi => (HOW.out.lt i hi).1)
                case measure => simp [intOf]; omega
              · obtain rfl : j = cm.length := by omega
                rw [List.take_of_length_le (Nat.le_refl _)] at HOW
                obtain ⟨x1, hx1'⟩ : ∃ x1, x1 = wr := ⟨_, rfl⟩
                rw [← hx1'] at HOW H9R ⊢
                have q1 := Q9.out.trans (H9R.out.mono Q9.out.size)
                have hktw := fun W (hW : Below wq.heap.size wq W) => (KT.out.below HBQ.out hgt).below hW (by have := HBQ.out.size; omega)
                have hgq : w.heap.size < wq.heap.size := by have := HBQ.out.size; omega
                have kx := hktw x1 q1
                have t0 := kx.cell 0
                have t1 := kx.cell 1
                have t2 := kx.cell 2
                have t3 := kx.cell 3
                have t4 := kx.cell 4
                simp at t0 t1 t2 t3 t4
                have hDx : Sl enc2 2 x1 x1.heap.size D1 cm := (HD1.out.below H9R.out).mono H9R.out.size
                have hGx : Sl enc2 2 x1 x1.heap.size G1 cm := Sl.of_own (base := w9.heap.size) (e := 169) (c := gc) (fun _ => rfl) HOW.out
                have hca := carrier_any t A1 c1 lo D1 h1 cm a b x1 (by have := HLL.out.1; omega) (by omega) (fun y hy => by have := HLH.out y hy; omega) ((HS1.out.below q1).mono q1.size) (fun y hy => ((HJ1.out y hy).below q1).mono q1.size) hDx
                rw [HLO.out, ← HLS.out, HLL.out.1] at hca
                obtain ⟨rs, hrs⟩ : ∃ rs, rs = carrierD t ls cm a b := ⟨_, rfl⟩
                rw [← hrs] at hca
                have hcb := fun W (hW : Below x1.heap.size x1 W) => rcarrier_any t A2 c2 lr G1 gc cm a b W (by have := HLL.out.2; omega) (by omega) (fun y hy => by have := HRH.out y hy; omega) (((HS2.out.below q1).mono q1.size).below hW |>.mono hW.size) (fun y hy => (((HJ2.out y hy).below q1).mono q1.size).below hW |>.mono hW.size) ((hGx.below hW).mono hW.size)
                rw [HLR.out, ← HLS.out, HLL.out.2, ← hrs] at hcb
                unfold tarV at hca hcb
                have HCA := Lib.hid hca
                have HCB := Lib.hid hcb
                have HDX := Lib.hid hDx
                have KX := Lib.hid kx
                have Q1 := Lib.hid q1
                have HRS := Lib.hid hrs
                clear hca hcb hDx hGx kx q1 hktw hrs hx1'
                go_wp2_with fail
                refine HCA.out.mono ?_
                rintro e x2 ⟨E3, g3, rfl, hE3, -, hb2'⟩
                obtain ⟨x3, hx3⟩ : ∃ W, W = x2.alloc (.cells #[.slice E3 rs.2.1.length g3, .int .i64 rs.2.2] 53) := ⟨_, rfl⟩
                have h23 : Below x2.heap.size x2 x3 := by rw [hx3]; exact (Below.refl _ _).alloc (Nat.le_refl _) _
                have h13 := hb2'.trans (h23.mono hb2'.size)
                obtain ⟨gX, hgX⟩ : ∃ g, g = x2.heap.size := ⟨_, rfl⟩
                have kX : Blk x3 gX 53 #[.slice E3 rs.2.1.length g3, .int .i64 rs.2.2] := by rw [hx3, hgX]; exact Blk.new _ _ _
                have HE3 := Lib.hid ((hE3.below h23).mono h23.size)
                have k3 := KX.out.below h13 KX.out.lt
                have t0 := k3.cell 0
                have t1 := k3.cell 1
                have t2 := k3.cell 2
                have t3 := k3.cell 3
                have t4 := k3.cell 4
                simp at t0 t1 t2 t3 t4
                have HX3 := Lib.hid hx3
                have HGX := Lib.hid hgX
                have KXX := Lib.hid kX
                have H13 := Lib.hid h13
                clear hE3 hb2' hx3 h23 h13 hgX kX k3
                go_upto_region 33 with fail
                rw [← HX3.out, ← HGX.out]
                go_wp2_with fail
                refine (HCB.out _ H13.out).mono ?_
                rintro e x4 ⟨E4, g4, rfl, hE4, -, hb4⟩
                obtain ⟨x5, hx5⟩ : ∃ W, W = x4.alloc (.cells #[.slice E4 rs.2.1.length g4, .int .i64 rs.2.2] 108) := ⟨_, rfl⟩
                have h45 : Below x4.heap.size x4 x5 := by rw [hx5]; exact (Below.refl _ _).alloc (Nat.le_refl _) _
                have h35 := hb4.trans (h45.mono hb4.size)
                obtain ⟨gY, hgY⟩ : ∃ g, g = x4.heap.size := ⟨_, rfl⟩
                have kY : Blk x5 gY 108 #[.slice E4 rs.2.1.length g4, .int .i64 rs.2.2] := by rw [hx5, hgY]; exact Blk.new _ _ _
                have kX5 := KXX.out.below h35 KXX.out.lt
                have u0 := kX5.cell 0
                have u1 := kX5.cell 1
                have v0 := kY.cell 0
                have v1 := kY.cell 1
                simp at u0 u1 v0 v1
                have hlen3 : rs.2.1.length ≤ 2 := by
                  rw [HRS.out]; unfold carrierD; split
                  · simp
                  · simp [carrierL]
                have HSA := Lib.hid (sameAccount_any E3 E4 g3 g4 rs.2.1 rs.2.2 x5 (by omega) ((HE3.out.below h35).mono h35.size) ((hE4.below h45).mono h45.size))
                have HX5 := Lib.hid hx5
                have HGY := Lib.hid hgY
                have H15 := Lib.hid (H13.out.trans (h35.mono H13.out.size))
                have tt : (rs.1 != rs.1) = false := by simp
                clear hE4 hb4 hx5 h45 h35 hgY kY kX5 t0 t1 t2 t3 t4 hlen3
                go_upto_region 34 with fail
                rw [← HX5.out, ← HGY.out]
                go_wp2_with fail
                refine HSA.out.mono ?_
                rintro e x6 ⟨rfl, hb6⟩
                have h16 := H15.out.trans (hb6.mono H15.out.size)
                have q6 := Q1.out.trans (h16.mono Q1.out.size)
                have heq := equalComplaint_any D1 C h1 cc cm cm x6 (by omega) (by omega) ((HDX.out.below h16).mono h16.size) (HCW.out _ q6)
                have hd : decide (cm = cm) = true := by simp
                rw [hd] at heq
                have HEQ2 := Lib.hid heq
                have Q6' := Lib.hid q6
                clear hb6 h16 q6 heq hd u0 u1 v0 v1
                go_wp2_with fail
                refine HEQ2.out.mono ?_
                rintro e x7 ⟨rfl, hb7⟩
                have q7 := Q6'.out.trans (hb7.mono Q6'.out.size)
                have hw7 := HB1.out.trans ((HBQ.out.trans (q7.mono HBQ.out.size)).mono HB1.out.size)
                have hes := equalSubs_any A1 A c1 ca lo l x7 (by have := HLL.out.1; omega) HLO.out (fun y hy => by have := HLH.out y hy; omega) ((HS1.out.below q7).mono q7.size) ((HA.out.below hw7).mono hw7.size) (fun y hy => ((HJ1.out y hy).below q7).mono q7.size) (fun y hy => ((HI.out y hy).below hw7).mono hw7.size)
                rw [HLL.out.1] at hes
                have HES := Lib.hid hes
                have HW7 := Lib.hid hw7
                clear hb7 q7 hw7 hes tt
                go_wp2_with fail
                refine HES.out.mono ?_
                rintro e x8 ⟨rfl, hb8⟩
                have hbb := HW7.out.trans (hb8.mono HW7.out.size)
                go_wp2_with fail
                go_ret
                exact ⟨rfl, hbb⟩
end Go.Proofs.Ytgopdfbmddkpfaa
