/- Contract of shared; conditions: none. -/
import Derived.Test.YtgopdfbmddkpfaaA1
import Derived.Test.YtgopdfbmddkpfaaSpec3
import Derived.Test.YtgopdfbmddkpfaaMaps
set_option linter.unusedSimpArgs false
set_option linter.unusedVariables false
namespace Go.Proofs.Ytgopdfbmddkpfaa
open Go.RowKit Go.Fh Go.Ag

theorem zero4 : ∀ w, (zeroValue 4).run Try.prog w = .ok (.bool false) w := fun w => by kernel_rfl

def MapBool (w : World) (g : Nat) (f : Int → Bool) : Prop := ∃ m : List (Int × Bool), MapIs (fun n : Int => Value.int .i64 n) Value.bool w g m ∧ ∀ x, (mget m x).getD false = f x

theorem getD_bool (o : Option Bool) : (o.map Value.bool).getD (.bool false) = .bool (o.getD false) := by cases o <;> rfl

set_option maxHeartbeats 2000000 in
theorem shared_any (A : Option Addr) (c : Nat) (l : List Ord3) (copies : Int) (w : World) (hl : l.length ≤ 9223372036854775807) (hA : Sl enc3 3 w w.heap.size A l) :
    Calls Try.prog 55 #[.slice A l.length c, .int .i64 copies] w fun e w' => e = .returned (.int .i64 (sharedE l copies)) ∧ Below w.heap.size w w' := by
  by_cases h40 : 40 < l.length
  · have hr : sharedE l copies = 2 := by simp [sharedE, h40]
    have HR := Lib.hid hr
    clear hr
    go_enter Try.func55, Try.ntmps55
    go_wp2_with fail
    go_ret
    exact ⟨ret_int HR.out.symm, Below.refl _ _⟩
  · have hr1 : firstErr (errO l) l.length ≠ 0 → sharedE l copies = firstErr (errO l) l.length := fun h => by simp [sharedE, h40, h]
    have hr2 : firstErr (errO l) l.length = 0 → sharedE l copies = if copies < 0 then 6 else if copies < needO l then 4 else 0 := fun h => by simp [sharedE, h40, h]
    have HR1 := Lib.hid hr1
    have HR2 := Lib.hid hr2
    have HA := Lib.hid hA
    have hmm := @run_makeMap Try.prog
    have hb0 : Below w.heap.size w (w.alloc (.map #[] 0)) := (Below.refl _ _).alloc (Nat.le_refl _) _
    have hm0 : MapBool (w.alloc (.map #[] 0)) w.heap.size (metO l 0) := ⟨[], MapIs.new _ _ _, fun x => by simp [mget, metO]⟩
    have HM0 := Lib.hid hm0
    clear hr1 hr2 hA hm0
    go_enter Try.func55, Try.ntmps55
    go_wp2_with fail
    clear hmm
    go_loopw [6, 15] (fun n i wr => ∃ k : Nat, k ≤ l.length ∧ i = .int .i64 k ∧ n = .int .i64 (needO (l.take k)) ∧ Hid (firstErr (errO l) k = 0) ∧ Hid (MapBool wr w.heap.size (metO l k)) ∧ Below w.heap.size w wr) (fun _ i _ => l.length - (intOf i).toNat)
    case atStart => exact ⟨0, Nat.zero_le _, rfl, rfl, rfl, HM0, hb0⟩
    case round =>
      obtain ⟨k, hk, rfl, rfl, HE, HM, hB⟩ := hrel
      have hok := firstO_ok hk HE.out
      have hbd := needO_bd hok
      have hlk : (l.take k).length ≤ 40 := by simp; omega
      by_cases hlt : k < l.length
      · obtain ⟨b, off, rfl, hb, c0, c1, c2⟩ := (HA.out.below hB).at3 hlt
        have hsz := hB.size
        have hget := errO_get hlt
        have HG := Lib.hid hget
        have hstop : errO l k ≠ 0 → sharedE l copies = errO l k := fun h => by rw [HR1.out (by rw [firstErr_stop HE.out h hlt]; exact h), firstErr_stop HE.out h hlt]
        have HS := Lib.hid hstop
        have hns := needO_snoc (l.take k) l[k]
        rw [← List.take_succ_eq_append_getElem hlt] at hns
        have HN := Lib.hid hns
        clear hget hstop hns hok
        cases hbad : badOrder l[k]
        · have ok := (OkOrd_iff _).1 hbad
          obtain ⟨o1, o2, o3⟩ := ok
          have i1 := inB_iff.2 o1
          have i2 := inB_iff.2 o2
          have i3 := inB_iff.2 o3
          have HB := Lib.hid hbad
          clear hbad
          obtain ⟨m, hm, hmq⟩ := HM.out
          have hglt := hm.lt
          have HM1 := Lib.hid (hm.alloc (.cells #[.int .i64 l[k].1, .int .i64 l[k].2.1, .int .i64 l[k].2.2] 44))
          have HQ := Lib.hid hmq
          have HKB := Lib.hid (Blk.new wr 44 #[.int .i64 l[k].1, .int .i64 l[k].2.1, .int .i64 l[k].2.2])
          have gw := IntWalk.i64_in (needO (l.take k) + l[k].2.2) (by omega)
          clear hm hmq
          cases hmet : metO l k l[k].1
          · have hgo := firstErr_go HE.out (by rw [HG.out, HB.out, hmet]; simp)
            have HGO := Lib.hid hgo
            clear hgo
            go_wp2_with (first
              | (go_at_call 48; refine (within_any _ _ _ _).mono ?_; rintro e w' ⟨rfl, rfl⟩)
              | (at_lookup; refine wpList_lookup rfl (.tmp 37) (.tmp 39) 185 false rfl Try.underlying185 (keyLaw_int Try.underlying3) zero4 HM1.out l[k].1 rfl rfl ?_; simp only [Bool.false_eq_true, if_false, getD_bool, HQ.out, hmet])
              | (at_mapUpdate; refine wpList_update rfl (.tmp 41) (.tmp 43) (.const (.bool true)) 185 rfl Try.underlying185 (keyLaw_int Try.underlying3) HM1.out l[k].1 true rfl rfl rfl ?_; intro w1 hm2 hg1 hs1; clear hs1; have kb := HKB.out.grown hg1 (by intro e; injection e with e; omega); have d0 := kb.cell 2; simp at d0; have HM2 := Lib.hid hm2; clear hm2 kb))
            go_roundw
            case rel =>
              refine ⟨k + 1, by omega, by go_num, int_eq HN.out.symm, HGO.out, ⟨_, HM2.out, fun x => ?_⟩, (hB.alloc hsz _).grown hg1 (by simp; omega) (fun j hj => by injection hj with hj; omega)⟩
              rw [mget_mset, metO_succ hlt]
              by_cases hx : x = l[k].1
              · subst hx; simp
              · rw [if_neg hx, HQ.out]
                have : (l[k].1 == x) = false := by simpa using (fun e => hx e.symm)
                rw [this]; simp
            case measure => simp [intOf]; omega
          · have hst := HS.out (by rw [HG.out, HB.out, hmet]; simp)
            rw [HG.out, HB.out, hmet] at hst
            simp only [Bool.false_eq_true, if_false, if_true] at hst
            have HST := Lib.hid hst
            clear hst
            go_wp2_with (first
              | (go_at_call 48; refine (within_any _ _ _ _).mono ?_; rintro e w' ⟨rfl, rfl⟩)
              | (at_lookup; refine wpList_lookup rfl (.tmp 37) (.tmp 39) 185 false rfl Try.underlying185 (keyLaw_int Try.underlying3) zero4 HM1.out l[k].1 rfl rfl ?_; simp only [Bool.false_eq_true, if_false, getD_bool, HQ.out, hmet]))
            go_ret
            exact ⟨ret_int HST.out.symm, hB.alloc hsz _⟩
        · have hst := HS.out (by rw [HG.out, hbad]; simp)
          rw [HG.out, hbad] at hst
          simp only [if_true] at hst
          have HST := Lib.hid hst
          clear hst
          have hq : inB l[k].1 0 1000000 = false ∨ (inB l[k].1 0 1000000 = true ∧ inB l[k].2.1 0 10000 = false) ∨ (inB l[k].1 0 1000000 = true ∧ inB l[k].2.1 0 10000 = true ∧ inB l[k].2.2 0 l[k].2.1 = false) := by
            revert hbad; unfold badOrder; cases inB l[k].1 0 1000000 <;> cases inB l[k].2.1 0 10000 <;> cases inB l[k].2.2 0 l[k].2.1 <;> simp
          clear hbad
          rcases hq with q1 | ⟨q1, q2⟩ | ⟨q1, q2, q3⟩
          all_goals
            go_wp2_with (go_at_call 48; refine (within_any _ _ _ _).mono ?_; rintro e w' ⟨rfl, rfl⟩)
            go_ret
            exact ⟨ret_int HST.out.symm, hB.alloc hsz _⟩
      · have hfull : l.take k = l := List.take_of_length_le (by omega)
        have hkk : k = l.length := by omega
        have hr := HR2.out (by rw [← hkk]; exact HE.out)
        have HR := Lib.hid hr
        rw [hfull] at hbd
        have HF := Lib.hid hfull
        clear hr hfull hkk hok
        by_cases q1 : copies < 0
        · go_wp2_with fail
          go_ret
          exact ⟨ret_int (by rw [HR.out, if_pos q1]), hB⟩
        · have HQ1 : Hid (¬ copies < 0) := Lib.hid q1
          by_cases q2 : copies < needO l
          · have hres : sharedE l copies = 4 := by rw [HR.out, if_neg HQ1.out, if_pos q2]
            have HRES := Lib.hid hres
            rw [← HF.out] at q2
            clear hres
            go_wp2_with fail
            go_ret
            exact ⟨ret_int HRES.out.symm, hB⟩
          · have hres : sharedE l copies = 0 := by rw [HR.out, if_neg HQ1.out, if_neg q2]
            have HRES := Lib.hid hres
            rw [← HF.out] at q2
            clear hres
            go_wp2_with fail
            go_ret
            exact ⟨ret_int HRES.out.symm, hB⟩
end Go.Proofs.Ytgopdfbmddkpfaa
