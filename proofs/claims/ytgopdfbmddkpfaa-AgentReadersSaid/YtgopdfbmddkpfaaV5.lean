/- Contract of Round; conditions: none. -/
import Derived.Test.YtgopdfbmddkpfaaV1
import Derived.Test.YtgopdfbmddkpfaaH2
set_option linter.unusedSimpArgs false
set_option linter.unusedVariables false
namespace Go.Proofs.Ytgopdfbmddkpfaa
open Go.RowKit Go.Fh Go.Ag

set_option maxRecDepth 20000 in
set_option maxHeartbeats 4000000 in
theorem round_any (A : Option Addr) (c : Nat) (l : List SubM) (day : Int) (w : World) (hl : l.length ≤ 9223372036854775807) (hh : ∀ x ∈ l, x.1.hol.length ≤ 1000) (hA : Sl encSub 5 w w.heap.size A l) (hI : ∀ x ∈ l, Sl enc2 2 w w.heap.size x.2.1 x.1.hol) :
    Calls Try.prog 33 #[.slice A l.length c, .int .i64 day] w fun e w' => ∃ A' c', e = .returned (.tuple #[.slice A' (roundR (l.map Prod.fst) day).1.length c', .int .i64 (roundR (l.map Prod.fst) day).2]) ∧ Sl encInt 1 w' w'.heap.size A' (roundR (l.map Prod.fst) day).1 ∧ Below w.heap.size w w' := by
  obtain ⟨i0, hi0, hz0, hz1, hz2⟩ := info_parts infoInt
  have HI0 := Lib.hid hi0
  have HA := Lib.hid hA
  have HIN := Lib.hid hI
  have HSM := Lib.hid (subsMap_any A c l w hl hh hA hI)
  have HH := Lib.hid hh
  obtain ⟨ls, hls⟩ : ∃ ls, ls = l.map Prod.fst := ⟨_, rfl⟩
  rw [← hls] at HSM ⊢
  have HLS := Lib.hid hls
  clear hi0 hA hI hh hls
  by_cases hE : listE ls = 0
  · cases hd : inB day 0 20000
    · have hr : roundR ls day = ([], 6) := by simp [roundR, hE, hd]
      have HR := Lib.hid hr
      have HE := Lib.hid hE
      clear hr hE
      go_enter Try.func33, Try.ntmps33
      go_wp2_with fail
      refine HSM.out.mono ?_
      rintro e w1 ⟨v, rfl, _, hb1⟩
      rw [HE.out]
      go_wp2_with (go_at_call 48; refine (within_any _ _ _ _).mono ?_; rintro e w' ⟨rfl, rfl⟩)
      go_ret2
      exact ⟨none, 0, by rw [HR.out]; rfl, by rw [HR.out]; exact Sl.nil, hb1⟩
    · have hr : roundR ls day = ((ls.filter fun s => getsB s day).map SubD.id, 0) := by simp [roundR, hE, hd]
      have HR := Lib.hid hr
      have HE := Lib.hid hE
      obtain ⟨hl5, hoks, _⟩ := listE_zero hE
      have HOKS := Lib.hid hoks
      have hl500 : l.length ≤ 500 := by rw [HLS.out] at hl5; simpa using hl5
      clear hr hE hl5 hoks
      go_enter Try.func33, Try.ntmps33
      go_wp2_with fail
      refine HSM.out.mono ?_
      rintro e w1 ⟨v, rfl, _, hb1⟩
      rw [HE.out]
      have HB1 := Lib.hid hb1
      have hz1' := hb1.size
      clear hb1
      go_wp2_with (go_at_call 48; refine (within_any _ _ _ _).mono ?_; rintro e w' ⟨rfl, rfl⟩)
      go_loopw [8, 24] (fun v i wr => ∃ (k : Nat) (os : List Int), k ≤ l.length ∧ i = .int .i64 k ∧ Hid (os = ((ls.take k).filter fun s => getsB s day).map SubD.id) ∧ os.length ≤ k ∧ (∃ A' c', v = .slice A' os.length c') ∧ wr.ownsRow w1.heap.size 3 1 v os.length (os.map (Value.int .i64)) ∧ Below w1.heap.size w1 wr) (fun _ i _ => l.length - (intOf i).toNat)
      case atStart => exact ⟨0, [], Nat.zero_le _, rfl, by simp [Hid], by simp, ⟨none, 0, rfl⟩, World.ownsRow_nil _ _ _ _, Below.refl _ _⟩
      case round =>
        obtain ⟨k, os, hk, rfl, HOS, hosl, ⟨A1, cc, rfl⟩, hown, hB⟩ := hrel
        have HOWN := Lib.hid hown
        clear hown
        have hsz := hB.size
        have hBw := HB1.out.trans (hB.mono HB1.out.size)
        by_cases hlt : k < l.length
        · obtain ⟨b, off, rfl, hb, c0, c1, c2, c3, c4⟩ := (HA.out.below hBw).at5 hlt
          have hxI := HIN.out _ (List.getElem_mem hlt)
          have hlsl : k < ls.length := by rw [HLS.out]; simpa using hlt
          have hgk : ls[k] = l[k].1 := by
            have : ls[k]? = some l[k].1 := by rw [HLS.out]; simp [hlt]
            rw [List.getElem?_eq_getElem hlsl] at this
            exact Option.some.inj this
          have hxo : OkS l[k].1 := HOKS.out _ (by rw [← hgk]; exact List.getElem_mem hlsl)
          have htk : ((ls.take (k + 1)).filter fun s => getsB s day).map SubD.id = os ++ (if getsB l[k].1 day then [l[k].1.id] else []) := by
            rw [List.take_succ_eq_append_getElem hlsl, List.filter_append, List.map_append, ← HOS.out, hgk]
            cases hg : getsB l[k].1 day <;> simp [hg]
          obtain ⟨x, hx⟩ : ∃ x, x = l[k] := ⟨_, rfl⟩
          rw [← hx] at c0 c1 c2 c3 c4 hxI hxo htk
          have hbw : b < wr.heap.size := by have := hBw.size; omega
          have hBx := hB.alloc hB.size (.cells #[.int .i64 x.1.id, .int .i64 x.1.lo, .int .i64 x.1.hi, .int .i64 x.1.days, .slice x.2.1 x.1.hol.length x.2.2] 63)
          have hBxw := HB1.out.trans (hBx.mono HB1.out.size)
          have hkx := Blk.new wr 63 #[.int .i64 x.1.id, .int .i64 x.1.lo, .int .i64 x.1.hi, .int .i64 x.1.days, .slice x.2.1 x.1.hol.length x.2.2]
          have hox := HOWN.out.alloc (.cells #[.int .i64 x.1.id, .int .i64 x.1.lo, .int .i64 x.1.hi, .int .i64 x.1.days, .slice x.2.1 x.1.hol.length x.2.2] 63)
          have hg := gets_any x.1 x.2.1 x.2.2 day _ hxo.2.1.1 hxo.2.2.1.2 hxo.2.2.2.1.1 hxo.2.2.2.1.2 (by have := hxo.2.2.2.2.1; omega) ((hxI.below hBxw).mono hBxw.size)
          unfold subV at hg
          have HG := Lib.hid hg
          have HBX := Lib.hid hBx
          have HKX := Lib.hid hkx
          have HOX := Lib.hid hox
          have HTK := Lib.hid htk
          clear hxI hlsl hgk hxo htk hx hBx hBxw hkx hox hg
          go_wp2_with fail
          refine HG.out.mono ?_
          rintro e w2 ⟨rfl, hb2⟩
          have hk2 := Blk.below HKX.out hb2 HKX.out.lt
          have HB2 := Lib.hid (HBX.out.trans (hb2.mono HBX.out.size))
          have ho2 := World.ownsRow.kept HOX.out (w' := w2) (row := none) ⟨hb2.os, hb2.tape, hb2.output, hb2.size, fun j hj _ => hb2.block j hj⟩ (by by_cases h : (Value.slice A1 os.length cc).ownBlock = none; (exact .inl h); (exact .inr h))
          have HO2 := Lib.hid ho2
          have u0 := hk2.cell 0
          simp at u0
          clear hb2 hk2 ho2 c0 c1 c2 c3 c4
          cases hgt : getsB x.1 day
          · rw [hgt] at HTK
            go_wp2_with fail
            go_roundw
            case rel => exact ⟨k + 1, os, by omega, by go_num, by rw [Hid, HTK.out]; simp, by omega, ⟨A1, cc, rfl⟩, HO2.out, HB2.out⟩
            case measure => simp [intOf]; omega
          · rw [hgt] at HTK
            have hown4 := HO2.out.alloc (.cells #[.int .i64 x.1.id] 3)
            have HOWN4 := Lib.hid hown4
            have HNEWS := Lib.hid (news_of1 w2 3 #[.int .i64 x.1.id])
            have hone : ∀ u ∈ [Value.int .i64 x.1.id], u.oneCell' = true := by intro u hu; simp at hu; subst hu; rfl
            have hm1 : os.length + 1 ≤ maxLen := by simp only [maxLen]; omega
            have hm2 : (os.length + 1) * 8 ≤ 140737488355328 := by omega
            have hm3 : w1.heap.size ≤ (w2.alloc (.cells #[.int .i64 x.1.id] 3)).heap.size := by have := HB2.out.size; simp; omega
            have HM3 := Lib.hid hm3
            have HONE := Lib.hid hone
            clear hown4 hm3 hone
            go_wp2_with (at_builtin; refine wpList_append_own _ rfl (.tmp 31) (.tmp 34) 37 rfl w1.heap.size 3 i0 (.int .i64 0) 1 8 Try.underlying37 HI0.out hz0 hz1 hz2 rfl (by decide) (.slice A1 os.length cc) os.length (os.map (Value.int .i64)) rfl HOWN4.out ⟨w2.heap.size, 0, none⟩ 1 1 [Value.int .i64 x.1.id] rfl rfl HNEWS.out HONE.out hm1 hm2 HM3.out ?_; intro v' w3 hown5 hg5 _)
            have HG5 := Lib.hid hg5
            have HO5 := Lib.hid hown5
            obtain ⟨A', c', rfl⟩ := own_shape hown5
            clear hg5 hown5
            go_wp2
            go_roundw
            case rel =>
              refine ⟨k + 1, os ++ [x.1.id], by omega, by go_num, by rw [Hid, HTK.out]; simp, by simp; omega, ⟨A', c', by simp⟩, ?_, ?_⟩
              · have := HO5.out
                simpa using this
              · exact (HB2.out.alloc HB2.out.size _).grown HG5.out (by have := HM3.out; omega) (fun j hj => (HOWN4.out.lt j hj).1)
            case measure => simp [intOf]; omega
        · obtain rfl : k = l.length := by omega
          have hfin : roundR ls day = (os, 0) := by
            rw [HR.out, HOS.out, List.take_of_length_le (by rw [HLS.out]; simp)]
          have HFIN := Lib.hid hfin
          clear hfin
          go_wp2_with fail
          go_ret2
          exact ⟨A1, cc, by rw [HFIN.out]; rfl, by rw [HFIN.out]; exact sl_ownInt HOWN.out, hBw⟩
  · have hr : roundR ls day = ([], listE ls) := by simp [roundR, hE]
    have HR := Lib.hid hr
    have t0 : (listE ls != 0) = true := by simp [hE]
    clear hr hE
    go_enter Try.func33, Try.ntmps33
    go_wp2_with fail
    refine HSM.out.mono ?_
    rintro e w1 ⟨v, rfl, _, hb1⟩
    go_wp2_with fail
    go_ret2
    exact ⟨none, 0, by rw [HR.out]; rfl, by rw [HR.out]; exact Sl.nil, hb1⟩
end Go.Proofs.Ytgopdfbmddkpfaa
