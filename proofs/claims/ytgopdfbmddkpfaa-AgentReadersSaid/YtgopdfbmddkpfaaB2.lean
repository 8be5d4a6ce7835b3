/- Contracts: Best's closure, Best; conditions: none. -/
import Derived.Test.YtgopdfbmddkpfaaB1
import Derived.Test.YtgopdfbmddkpfaaB3
import Derived.Test.YtgopdfbmddkpfaaE1
import Derived.Test.YtgopdfbmddkpfaaA1
import Derived.Deep.OwnRows
set_option linter.unusedSimpArgs false
set_option linter.unusedVariables false
namespace Go.Ag
def ableD (h : List (Int × Int)) : List Int := 0 :: h.map fun d => d.1 - d.2
def sortD (l : List Int) : List Int := l.mergeSort fun x y => decide (x ≤ y)
def bestQ (h : List (Int × Int)) (over under : Int) : Int := (sortD (ableD h)).getD (firstK (fun q => totalOf q over under h) (sortD (ableD h)) (sortD (ableD h)).length) 0
/-- what Best returns: supply, total, error -/
def bestD (h : List (Int × Int)) (over under : Int) : Int × Int × Int :=
  if checkH h ≠ 0 then (0, 0, checkH h) else if costsB over under = false then (0, 0, 1) else if h = [] then (0, 0, 4) else (bestQ h over under, totalOf (bestQ h over under) over under h, 0)
end Go.Ag
namespace Go.Proofs.Ytgopdfbmddkpfaa
open Go.RowKit Go.Fh Go.Ag

theorem own_below {B : Nat} {w w' : World} {base : Nat} {e : TypeId} {size : Nat} {v : Value} {n : Nat} {xs : List Value} (h : w.ownsRow base e size v n xs) (hb : Below B w w') (hB : w.heap.size ≤ B) : w'.ownsRow base e size v n xs := by
  refine ⟨h.1, ?_⟩
  rcases h.2 with h0 | ⟨g, cap, cur, e, hbs, hh, rest⟩
  · exact .inl h0
  · exact .inr ⟨g, cap, cur, e, hbs, (hb.block g (by have := (Array.getElem?_eq_some_iff.1 hh).1; omega)).trans hh, rest⟩
theorem ableD_snoc (l : List (Int × Int)) (d : Int × Int) : ableD (l ++ [d]) = ableD l ++ [d.1 - d.2] := by simp [ableD]
theorem ableD_len (l : List (Int × Int)) : (ableD l).length = l.length + 1 := by simp [ableD]

theorem ableD_bd {l : List (Int × Int)} (h : ∀ d ∈ l, OkDay d) {x : Int} (hx : x ∈ sortD (ableD l)) : 0 ≤ x ∧ x ≤ 10000 := by
  have hx : x ∈ ableD l := (List.mergeSort_perm _ _).mem_iff.1 hx
  simp only [ableD, List.mem_cons, List.mem_map] at hx
  rcases hx with rfl | ⟨d, hd, rfl⟩
  · omega
  · have := h d hd
    unfold OkDay at this
    omega
theorem sortD_len (l : List (Int × Int)) : (sortD (ableD l)).length = l.length + 1 := by simp [sortD, ableD]

theorem close_any (g1 g2 g3 : Nat) (A : Option Addr) (c : Nat) (l : List (Int × Int)) (q over under : Int) (w : World) (hl : l.length ≤ 400) (hA : Sl enc2 2 w w.heap.size A l) (hd : ∀ d ∈ l, OkDay d)
    (h5 : 0 ≤ q) (h6 : q ≤ 10000) (h7 : 0 ≤ over) (h8 : over ≤ 1000) (h9 : 0 ≤ under) (h10 : under ≤ 1000)
    (k1 : w.cell? ⟨g1, 0, none⟩ = some (.slice A l.length c)) (k2 : w.cell? ⟨g2, 0, none⟩ = some (.int .i64 over)) (k3 : w.cell? ⟨g3, 0, none⟩ = some (.int .i64 under)) :
    Calls Try.prog 43 #[.int .i64 q, .pointer (some ⟨g1, 0, none⟩), .pointer (some ⟨g2, 0, none⟩), .pointer (some ⟨g3, 0, none⟩)] w fun e w' => e = .returned (.int .i64 (totalOf q over under l)) ∧ Below w.heap.size w w' := by
  have HC := Lib.hid (total_any A c l q over under w hl hA hd h5 h6 h7 h8 h9 h10)
  clear hA hd
  go_enter Try.func43, Try.ntmps43
  go_wp2_with fail
  refine HC.out.mono ?_
  rintro e w1 ⟨rfl, hb⟩
  go_wp2_with fail
  go_ret
  exact ⟨rfl, hb⟩

set_option maxRecDepth 20000 in
set_option maxHeartbeats 2000000 in
theorem best_any (A : Option Addr) (c : Nat) (l : List (Int × Int)) (over under : Int) (w : World) (hl : l.length ≤ 9223372036854775807) (hA : Sl enc2 2 w w.heap.size A l) :
    Calls Try.prog 14 #[.slice A l.length c, .int .i64 over, .int .i64 under] w fun e w' => e = .returned (.tuple #[.int .i64 (bestD l over under).1, .int .i64 (bestD l over under).2.1, .int .i64 (bestD l over under).2.2]) ∧ Below w.heap.size w w' := by
  obtain ⟨w3, hw3⟩ : ∃ w3, w3 = ((w.alloc (.cells #[.slice A l.length c] 24)).alloc (.cells #[.int .i64 over] 3)).alloc (.cells #[.int .i64 under] 3) := ⟨_, rfl⟩
  have hb3 : Below w.heap.size w w3 := by rw [hw3]; exact (((Below.refl _ _).alloc (Nat.le_refl _) _).alloc (by simp) _).alloc (by simp; omega) _
  have hz3 : w3.heap.size = w.heap.size + 3 := by rw [hw3]; simp
  have k1 : Blk w3 w.heap.size 24 #[.slice A l.length c] := by rw [hw3]; exact ((Blk.new w 24 _).alloc _).alloc _
  have k2 : Blk w3 (w.heap.size + 1) 3 #[.int .i64 over] := by
    rw [hw3]
    have := (Blk.new (w.alloc (.cells #[.slice A l.length c] 24)) 3 #[.int .i64 over]).alloc (.cells #[.int .i64 under] 3)
    rwa [World.size_alloc] at this
  have k3 : Blk w3 (w.heap.size + 2) 3 #[.int .i64 under] := by
    rw [hw3]
    have := Blk.new ((w.alloc (.cells #[.slice A l.length c] 24)).alloc (.cells #[.int .i64 over] 3)) 3 #[.int .i64 under]
    rwa [World.size_alloc, World.size_alloc] at this
  have HA := Lib.hid hA
  have HW3 := Lib.hid hw3
  have K1 := Lib.hid k1
  have K2 := Lib.hid k2
  have K3 := Lib.hid k3
  have c1 := k1.cell 0
  simp at c1
  clear hA hw3 k1 k2 k3
  go_enter Try.func14, Try.ntmps14
  go_upto_region 1 with fail
  rw [← HW3.out]
  go_wp2_with fail
  refine (check_any A c l w3 hl ((HA.out.below hb3).mono (by omega))).mono ?_
  rintro e w4 ⟨rfl, hb34⟩
  have hb4 : Below w.heap.size w w4 := hb3.trans (hb34.mono (by omega))
  have hz4 : w.heap.size + 3 ≤ w4.heap.size := by have := hb34.size; omega
  have hb0 := hz3
  clear hz3
  by_cases he : checkH l = 0
  · rw [he]
    have c2 := (K2.out.below hb34 (by omega)).cell 0
    have c3 := (K3.out.below hb34 (by omega)).cell 0
    have c1' := (K1.out.below hb34 (by omega)).cell 0
    simp at c2 c3 c1'
    have HE := Lib.hid he
    clear he c1
    by_cases hcost : costsB over under = false
    · have hr : bestD l over under = (0, 0, 1) := by simp [bestD, HE.out, hcost]
      have HR := Lib.hid hr
      clear hr
      go_wp2_with fail
      refine (costs_any over under w4).mono ?_
      rintro e w' ⟨rfl, rfl⟩
      rw [hcost]
      go_wp2_with fail
      refine bodyPost_ret (v := .tuple #[.int .i64 0, .int .i64 0, .int .i64 1]) ?_ rfl ⟨by rw [HR.out], hb4⟩
      simp [results, Try.results14, go_sem]
    · have hcost : costsB over under = true := by simpa using hcost
      by_cases hnil : l = []
      · have hr : bestD l over under = (0, 0, 4) := by
          have e := HE.out
          unfold bestD
          rw [e]
          simp [hcost, hnil]
        have HR := Lib.hid hr
        have hlen : l.length = 0 := by simp [hnil]
        clear hr hnil
        go_wp2_with fail
        refine (costs_any over under w4).mono ?_
        rintro e w' ⟨rfl, rfl⟩
        rw [hcost]
        go_wp2_with fail
        refine bodyPost_ret (v := .tuple #[.int .i64 0, .int .i64 0, .int .i64 4]) ?_ rfl ⟨by rw [HR.out], hb4⟩
        simp [results, Try.results14, go_sem]
      · have hr : bestD l over under = (bestQ l over under, totalOf (bestQ l over under) over under l, 0) := by simp [bestD, HE.out, hcost, hnil]
        have HR := Lib.hid hr
        have hlen : 0 < l.length := List.length_pos_iff.2 hnil
        have hlz : ((l.length : Int) == 0) = false := by simp; omega
        obtain ⟨hl4, hok⟩ := checkH_zero.1 HE.out
        have HOK := Lib.hid hok
        have hbnd : (0 ≤ over ∧ over ≤ 1000) ∧ (0 ≤ under ∧ under ≤ 1000) := by
          have := hcost
          simp [costsB, inB] at this
          omega
        clear hr hnil hok
        go_wp2_with fail
        refine (costs_any over under w4).mono ?_
        rintro e w' ⟨rfl, rfl⟩
        rw [hcost]
        go_upto_region 9 with fail
        obtain ⟨w5, hw5⟩ : ∃ w5, w5 = w4.alloc (.cells #[.int .i64 0] 3) := ⟨_, rfl⟩
        have hb45 : Below w4.heap.size w4 w5 := by rw [hw5]; exact (Below.refl _ _).alloc (Nat.le_refl _) _
        have hz5 : w4.heap.size < w5.heap.size := by rw [hw5]; simp
        have own5 : w5.ownsRow w4.heap.size 3 1 (.slice (some ⟨w4.heap.size, 0, none⟩) 1 1) 1 [.int .i64 0] := by rw [hw5]; exact World.ownsRow_lit w4 #[.int .i64 0] 1 (Nat.le_refl _) (by decide) rfl
        have OWN5 := Lib.hid own5
        have d1 := ((K1.out.below hb34 (by omega)).below hb45 (by omega)).cell 0
        simp at d1
        rw [← hw5]
        clear hw5 own5 c1' c2 c3
        obtain ⟨i0, hi0, hz0, hz1, hz2⟩ := info_parts infoInt
        have HI0 := Lib.hid hi0
        have HZ0 := Lib.hid hz0
        have HZ1 := Lib.hid hz1
        have HZ2 := Lib.hid hz2
        clear hi0 hz0 hz1 hz2
        go_wp2_with fail
        go_loopw [10, 29] (fun v i wr => ∃ k : Nat, k ≤ l.length ∧ i = .int .i64 k ∧ (∃ A' c', v = .slice A' (k + 1) c') ∧ Hid (wr.ownsRow w4.heap.size 3 1 v (k + 1) ((ableD (l.take k)).map (Value.int .i64))) ∧ w4.heap.size < wr.heap.size ∧ Below w4.heap.size w4 wr) (fun _ i _ => l.length - (intOf i).toNat)
        case atStart => exact ⟨0, Nat.zero_le _, rfl, ⟨_, _, rfl⟩, OWN5, hz5, hb45⟩
        case round =>
          obtain ⟨k, hk, rfl, ⟨A1, cc, rfl⟩, HOWN, hz, hB⟩ := hrel
          have hBw : Below w.heap.size w wr := hb4.trans (hB.mono (by omega))
          by_cases hlt : k < l.length
          · obtain ⟨b, off, e0, hb, c2, c3⟩ := (HA.out.below hBw).at2 hlt
            subst e0
            have hdk := HOK.out _ (List.getElem_mem hlt)
            have hsn := ableD_snoc (l.take k) l[k]
            rw [← List.take_succ_eq_append_getElem hlt] at hsn
            generalize l[k] = d at *
            obtain ⟨d1', d2', d3', d4'⟩ := hdk
            have HSN := Lib.hid hsn
            clear hsn
            have hS := sold_any d.1 d.2 (wr.alloc (.cells #[.int .i64 d.1, .int .i64 d.2] 33)) d1' d2' d3' d4'
            have HS := Lib.hid hS
            clear hS
            go_wp2_with fail
            refine HS.out.mono ?_
            rintro e w6 ⟨rfl, hb6⟩
            have hz6 : wr.heap.size + 1 ≤ w6.heap.size := by have := hb6.size; simpa using this
            have hBr : Below w4.heap.size w4 (wr.alloc (.cells #[.int .i64 d.1, .int .i64 d.2] 33)) := hB.alloc hB.size _
            have hB6 : Below w4.heap.size w4 w6 := hBr.trans (hb6.mono hBr.size)
            have hown6 := (own_below (HOWN.out.alloc (.cells #[.int .i64 d.1, .int .i64 d.2] 33)) hb6 (Nat.le_refl _)).alloc (.cells #[.int .i64 (d.1 - d.2)] 3)
            have hlt6 := hown6.lt
            have HOWN6 := Lib.hid hown6
            have HLT6 := Lib.hid hlt6
            have HNEWS := Lib.hid (news_of1 w6 3 #[.int .i64 (d.1 - d.2)])
            have hone : ∀ u ∈ [Value.int .i64 (d.1 - d.2)], u.oneCell' = true := by intro u hu; simp at hu; subst hu; rfl
            have hm1 : k + 1 + 1 ≤ maxLen := by simp only [maxLen]; omega
            have hm2 : (k + 1 + 1) * 8 ≤ 140737488355328 := by omega
            have hm3 : w4.heap.size ≤ (w6.alloc (.cells #[.int .i64 (d.1 - d.2)] 3)).heap.size := by simp; omega
            have HM3 := Lib.hid hm3
            have HONE := Lib.hid hone
            clear hown6 hlt6 hm3 hone
            go_wp2_with (at_builtin; refine wpList_append_own _ rfl (.tmp 33) (.tmp 36) 37 rfl w4.heap.size 3 i0 (.int .i64 0) 1 8 Try.underlying37 HI0.out HZ0.out HZ1.out HZ2.out rfl (by decide) (.slice A1 (k + 1) cc) (k + 1) ((ableD (l.take k)).map (Value.int .i64)) rfl HOWN6.out ⟨w6.heap.size, 0, none⟩ 1 1 [Value.int .i64 (d.1 - d.2)] rfl rfl HNEWS.out HONE.out hm1 hm2 HM3.out ?_; intro v' w7 hown7 hg7 _)
            have HG7 := Lib.hid hg7
            have HOWN7 := Lib.hid hown7
            obtain ⟨A', c', rfl⟩ := own_shape hown7
            clear hg7 hown7
            go_wp2_with fail
            go_roundw
            case rel =>
              refine ⟨k + 1, by omega, by go_num, ⟨A', c', rfl⟩, ?_, ?_, ?_⟩
              · have := HOWN7.out
                unfold Hid
                rw [HSN.out]
                simpa using this
              · have := HG7.out.size
                simp at this
                omega
              · exact (hB6.alloc (by omega) _).grown HG7.out (by simp; omega) (fun j hj => (HLT6.out _ hj).1)
            case measure => simp [intOf]; omega
          · obtain rfl : k = l.length := by omega
            have hown := HOWN.out
            rw [List.take_length, ← ableD_len] at hown
            have hsort := sort_own (op := ableD l) hown (by simp [ableD]) (by rw [ableD_len]; omega)
            rw [ableD_len] at hsort
            have HSORT := Lib.hid hsort
            clear hown hsort d1
            go_wp2_with fail
            refine HSORT.out.mono ?_
            rintro e w8 ⟨rfl, hown8, hb8⟩
            have hB8 : Below w4.heap.size w4 w8 := hB.trans hb8
            have hBw8 : Below w.heap.size w w8 := hb4.trans (hB8.mono (by omega))
            have hsl8 : Sl encInt 1 w8 w8.heap.size A1 (sortD (ableD l)) := sl_ownInt' (c := cc) (by rw [sortD_len]; exact hown8)
            have HSL8 := Lib.hid hsl8
            have H1 := Lib.hid ((K1.out.below hb34 (by omega)).below hB8 (by omega))
            have H2 := Lib.hid ((K2.out.below hb34 (by omega)).below hB8 (by omega))
            have H3 := Lib.hid ((K3.out.below hb34 (by omega)).below hB8 (by omega))
            have hz8 : w4.heap.size ≤ w8.heap.size := by have := hB8.size; omega
            have hfirst := first_any A1 cc (sortD (ableD l)) (fun q => totalOf q over under l) (.pointer (some ⟨w.heap.size, 0, none⟩)) (.pointer (some ⟨w.heap.size + 1, 0, none⟩)) (.pointer (some ⟨w.heap.size + 2, 0, none⟩)) w8 (by rw [sortD_len]; omega) HSL8.out (fun W x hx hW => by
              obtain ⟨x1, x2⟩ := ableD_bd HOK.out hx
              refine close_any _ _ _ A c l x over under W hl4 ((HA.out.below (hBw8.trans (hW.mono hBw8.size))).mono (hBw8.trans (hW.mono hBw8.size)).size) HOK.out x1 x2 hbnd.1.1 hbnd.1.2 hbnd.2.1 hbnd.2.2 ?_ ?_ ?_
              · simpa using (H1.out.below hW (by omega)).cell 0
              · simpa using (H2.out.below hW (by omega)).cell 0
              · simpa using (H3.out.below hW (by omega)).cell 0)
            rw [sortD_len] at hfirst
            have HF := Lib.hid hfirst
            have hfl := firstK_lt (v := fun q => totalOf q over under l) (l := sortD (ableD l)) (by rw [sortD_len]; omega) (Nat.le_refl _)
            have hbq : bestQ l over under = (sortD (ableD l))[firstK (fun q => totalOf q over under l) (sortD (ableD l)) (sortD (ableD l)).length] := by simp [bestQ, hfl]
            obtain ⟨q1, q2⟩ := ableD_bd HOK.out (by rw [hbq]; exact List.getElem_mem hfl : bestQ l over under ∈ sortD (ableD l))
            obtain ⟨bo, oo, rfl, hbo, r1⟩ := HSL8.out.at1 hfl
            rw [← hbq] at r1
            simp only [sortD_len] at r1 hfl
            clear hfirst hsl8 hown8 hbq
            generalize firstK (fun q => totalOf q over under l) (sortD (ableD l)) (l.length + 1) = fk at *
            go_wp2_with fail
            refine HF.out.mono ?_
            rintro e w9 ⟨rfl, hb9⟩
            have r2 := ((bcell hb9).1 bo (oo + fk) hbo).trans r1
            have c1 := (H1.out.below hb9 (by omega)).cell 0
            have c2 := (H2.out.below hb9 (by omega)).cell 0
            have c3 := (H3.out.below hb9 (by omega)).cell 0
            simp at c1 c2 c3
            have hBw9 : Below w.heap.size w w9 := hBw8.trans (hb9.mono hBw8.size)
            go_wp2_with fail
            refine (total_any A c l (bestQ l over under) over under w9 hl4 ((HA.out.below hBw9).mono hBw9.size) HOK.out q1 q2 hbnd.1.1 hbnd.1.2 hbnd.2.1 hbnd.2.2).mono ?_
            rintro e w10 ⟨rfl, hb10⟩
            go_wp2_with fail
            refine bodyPost_ret (v := .tuple #[.int .i64 (bestQ l over under), .int .i64 (totalOf (bestQ l over under) over under l), .int .i64 0]) ?_ rfl ⟨by rw [HR.out], hBw9.trans (hb10.mono hBw9.size)⟩
            simp [results, Try.results14, go_sem]
  · have hr : bestD l over under = (0, 0, checkH l) := by simp [bestD, he]
    have HR := Lib.hid hr
    have hne : (checkH l != 0) = true := by simp [he]
    clear hr he
    go_wp2_with fail
    refine bodyPost_ret (v := .tuple #[.int .i64 0, .int .i64 0, .int .i64 (checkH l)]) ?_ rfl ⟨by rw [HR.out], hb4⟩
    simp [results, Try.results14, go_sem]
end Go.Proofs.Ytgopdfbmddkpfaa
