/- Contracts of slots and Slots; conditions: lengths that a title has. -/
import Derived.Test.YtokdleanpkkdpaaR2
import Derived.Maps.OwnIn
import Derived.RangeFuncNested
set_option linter.unusedSimpArgs false
set_option linter.unusedVariables false
namespace Go.Ed
def encSlo (s : SloD) : List Go.Value := [.int .i64 s.edition, .int .i64 s.plates, .int .i64 s.beg, .int .i64 s.fin]
end Go.Ed
namespace Go.Proofs.Ytokdleanpkkdpaa
open Go.RowKit Go.Fh Go.Ed Go.Shelf
attribute [local go_sem] Oper.semAt_some
theorem infoSlo : (Try.prog.info? 63).map (fun i => (i.zero, i.size, i.bytes)) = some (some (.agg #[.int .i64 0, .int .i64 0, .int .i64 0, .int .i64 0]), 4, 32) := by kernel_rfl
theorem slots70_any (g A : Option Addr) (n c : Nat) (w : World) :
    Calls Try.prog 70 #[.pointer g, .slice A n c] w fun e w' => e = .returned (.func (.func 114) #[] #[.pointer (some ⟨w.heap.size + 1, 0, none⟩), .pointer (some ⟨w.heap.size, 0, none⟩)]) ∧ w' = (w.alloc (.cells #[.pointer g] 124)).alloc (.cells #[.slice A n c] 22) := by
  go_enter Try.func70, Try.ntmps70
  go_wp2_with fail
  go_ret
  exact ⟨rfl, rfl⟩
section
variable (t : TitD) (x : TA) (zs : List ZonM) (w : World) (hs : Sizes t) (hT : TitAt w w.heap.size t x zs)
include hs hT
set_option maxRecDepth 20000 in
set_option maxHeartbeats 2000000 in
theorem Slots_bad (A : Option Addr) (c : Nat) (l : List Int) (hc : checkT t ≠ 0) :
    Calls Try.prog 24 #[.agg (titV t x), .slice A l.length c] w fun e w' => e = .returned (.tuple #[.slice none 0 0, .int .i64 (checkT t)]) ∧ Below w.heap.size w w' := by
  obtain ⟨w1, hw1⟩ : ∃ W, W = w.alloc (.cells (titV t x) 26) := ⟨_, rfl⟩
  have hb1 : Below w.heap.size w w1 := by rw [hw1]; exact (Below.refl _ _).alloc (Nat.le_refl _) _
  obtain ⟨gT, hgT⟩ : ∃ g, g = w.heap.size := ⟨_, rfl⟩
  have kT : Blk w1 gT 26 (titV t x) := by rw [hw1, hgT]; exact Blk.new _ _ _
  have r0 := kT.cell 0
  have r1 := kT.cell 1
  have r2 := kT.cell 2
  have r3 := kT.cell 3
  have r4 := kT.cell 4
  have r5 := kT.cell 5
  have r6 := kT.cell 6
  have r7 := kT.cell 7
  simp [titV] at r0 r1 r2 r3 r4 r5 r6 r7
  have HCK := Lib.hid (ask_bad t x zs w1 hs ((hT.below hb1).mono hb1.size) A c l hc)
  obtain ⟨ck, hck⟩ : ∃ c, c = checkT t := ⟨_, rfl⟩
  rw [← hck] at HCK hc ⊢
  have ht : (ck != 0) = true := by simpa using hc
  have HB1 := Lib.hid hb1
  have HW1 := Lib.hid hw1
  have HGT := Lib.hid hgT
  clear hb1 hw1 hgT kT hT hs hc hck
  unfold titV at *
  go_enter Try.func24, Try.ntmps24
  go_upto_region 1 with fail
  rw [← HW1.out, ← HGT.out]
  go_wp2_with (go_at_call 63; refine HCK.out.mono ?_; rintro e w2 ⟨rfl, hb2⟩; have HB2 := Lib.hid hb2; clear hb2)
  go_ret2
  exact ⟨rfl, HB1.out.trans (HB2.out.mono HB1.out.size)⟩
set_option maxRecDepth 20000 in
set_option maxHeartbeats 2000000 in
theorem Slots_arg (A : Option Addr) (c : Nat) (l : List Int) (hl : l.length ≤ 1000000000) (hA : Sl encInt 1 w w.heap.size A l) (hc : checkT t = 0) (ho : ordersB (edsR t).length l = false) :
    Calls Try.prog 24 #[.agg (titV t x), .slice A l.length c] w fun e w' => e = .returned (.tuple #[.slice none 0 0, .int .i64 1]) ∧ Below w.heap.size w w' := by
  obtain ⟨w1, hw1⟩ : ∃ W, W = w.alloc (.cells (titV t x) 26) := ⟨_, rfl⟩
  have hb1 : Below w.heap.size w w1 := by rw [hw1]; exact (Below.refl _ _).alloc (Nat.le_refl _) _
  obtain ⟨gT, hgT⟩ : ∃ g, g = w.heap.size := ⟨_, rfl⟩
  have kT : Blk w1 gT 26 (titV t x) := by rw [hw1, hgT]; exact Blk.new _ _ _
  have r0 := kT.cell 0
  have r1 := kT.cell 1
  have r2 := kT.cell 2
  have r3 := kT.cell 3
  have r4 := kT.cell 4
  have r5 := kT.cell 5
  have r6 := kT.cell 6
  have r7 := kT.cell 7
  simp [titV] at r0 r1 r2 r3 r4 r5 r6 r7
  have HCK := Lib.hid (ask_ok t x zs w1 hs ((hT.below hb1).mono hb1.size) A c l hl ((hA.below hb1).mono hb1.size) hc)
  rw [ho] at HCK
  simp only [Bool.false_eq_true, if_false] at HCK
  have HB1 := Lib.hid hb1
  have HW1 := Lib.hid hw1
  have HGT := Lib.hid hgT
  clear hb1 hw1 hgT kT hT hs hc hA ho
  unfold titV at *
  go_enter Try.func24, Try.ntmps24
  go_upto_region 1 with fail
  rw [← HW1.out, ← HGT.out]
  go_wp2_with (go_at_call 63; refine HCK.out.mono ?_; rintro e w2 ⟨k, rfl, hk, hb2⟩; have HB2 := Lib.hid hb2; clear hb2 hk)
  go_ret2
  exact ⟨rfl, HB1.out.trans (HB2.out.mono HB1.out.size)⟩
set_option maxRecDepth 100000 in
set_option maxHeartbeats 4000000 in
theorem Slots_ok (A : Option Addr) (c : Nat) (o : List Nat) (hl : o.length ≤ 1000) (hA : Sl encInt 1 w w.heap.size A (o.map fun (e : Nat) => (e : Int))) (hc : checkT t = 0) (ho : ordersB (edsR t).length (o.map fun (e : Nat) => (e : Int)) = true) :
    Calls Try.prog 24 #[.agg (titV t x), .slice A o.length c] w fun e w' => ∃ A' c', e = .returned (.tuple #[.slice A' (slotsD t (edsR t) o).length c', .int .i64 0]) ∧ w'.ownsRow w.heap.size 63 4 (.slice A' (slotsD t (edsR t) o).length c') (slotsD t (edsR t) o).length ((slotsD t (edsR t) o).flatMap encSlo) ∧ Below w.heap.size w w' := by
  obtain ⟨w1, hw1⟩ : ∃ W, W = w.alloc (.cells (titV t x) 26) := ⟨_, rfl⟩
  have hb1 : Below w.heap.size w w1 := by rw [hw1]; exact (Below.refl _ _).alloc (Nat.le_refl _) _
  obtain ⟨gT, hgT⟩ : ∃ g, g = w.heap.size := ⟨_, rfl⟩
  have kT : Blk w1 gT 26 (titV t x) := by rw [hw1, hgT]; exact Blk.new _ _ _
  have r0 := kT.cell 0
  have r1 := kT.cell 1
  have r2 := kT.cell 2
  have r3 := kT.cell 3
  have r4 := kT.cell 4
  have r5 := kT.cell 5
  have r6 := kT.cell 6
  have r7 := kT.cell 7
  simp [titV] at r0 r1 r2 r3 r4 r5 r6 r7
  have hlo : (o.map fun (e : Nat) => (e : Int)).length = o.length := by simp
  have HCK := Lib.hid (ask_ok t x zs w1 hs ((hT.below hb1).mono hb1.size) A c (o.map fun (e : Nat) => (e : Int)) (by rw [hlo]; omega) ((hA.below hb1).mono hb1.size) hc)
  rw [hlo, ho] at HCK
  simp only [if_true] at HCK
  have hoe : ∀ e ∈ o, e < (edsR t).length := by
    intro e he
    unfold ordersB at ho
    simp only [Bool.and_eq_true] at ho
    have := inB_iff.1 (List.all_eq_true.1 ho.1.2 (e : Int) (List.mem_map.2 ⟨e, he, rfl⟩))
    omega
  have HT1 := Lib.hid ((hT.below hb1).mono hb1.size)
  have HA1 := Lib.hid ((hA.below hb1).mono hb1.size)
  have hch := chk_ok hc
  have HB1 := Lib.hid hb1
  have HW1 := Lib.hid hw1
  have HGT := Lib.hid hgT
  have HCH := Lib.hid hch
  have HOE := Lib.hid hoe
  have hol : o.length ≤ 7 := by
    have h1 := (eds_le hc).2
    unfold ordersB at ho
    simp only [Bool.and_eq_true, decide_eq_true_eq] at ho
    have := ho.1.1
    rw [hlo] at this
    omega
  clear hb1 hw1 hgT kT hT hs hc hA ho hoe hlo hch
  obtain ⟨i0, hi, hz0, hz1, hz2⟩ := info_parts infoSlo
  have HI := Lib.hid hi
  clear hi
  refine (callsIn_wide (n := 3)).1 ?_
  unfold titV at *
  refine callsIn_of_wp_marks Try.func24 rfl trivial ?_ rfl
  simp only [Try.ntmps24, List.size_toArray, List.length_cons, List.length_nil, Nat.reduceAdd, Nat.reduceSub, Array.replicate_succ, Array.replicate_zero, List.push_toArray, List.append_toArray, List.nil_append, List.cons_append]
  gi_upto_region 1 with fail
  rw [← HW1.out, ← HGT.out]
  gi_wp2_with (first
    | (refine ⟨trivial, ?_⟩; gi_at_call 63; refine (callsIn_wide.2 HCK.out).mono ?_; rintro e w2 ⟨k, rfl, hk, hb2⟩; have HB2 := Lib.hid hb2; have HK := Lib.hid hk; clear hb2 hk)
    | (refine ⟨trivial, ?_⟩; gi_at_call 70; refine (callsIn_wide.2 (slots70_any _ _ _ _ _)).mono ?_; rintro e w3 ⟨rfl, hw3⟩; have HW3 := Lib.hid hw3; clear hw3))
  obtain ⟨g8, hg8⟩ : ∃ g, g = w2.heap.size := ⟨_, rfl⟩
  obtain ⟨gQ, hgQ⟩ : ∃ g, g = w2.heap.size + 1 := ⟨_, rfl⟩
  obtain ⟨gO, hgO⟩ : ∃ g, g = w2.heap.size + 1 + 1 := ⟨_, rfl⟩
  rw [← hgO, ← hgQ, ← hg8]
  have hw3 := HW3.out
  have k8 : Boxed w3 g8 59 (.slice none 0 0) := by rw [hw3, hg8]; exact ((Boxed.new w2 59 _).alloc _).alloc _
  have kQ : Blk w3 gQ 124 #[.pointer (some ⟨k.g, 0, none⟩)] := by
    have h0 := Blk.new (w2.alloc (.cells #[.slice none 0 0] 59)) 124 #[.pointer (some ⟨k.g, 0, none⟩)]
    rw [World.size_alloc] at h0
    rw [hw3, hgQ]; exact h0.alloc _
  have kO : Blk w3 gO 22 #[.slice A o.length c] := by
    have h0 := Blk.new ((w2.alloc (.cells #[.slice none 0 0] 59)).alloc (.cells #[.pointer (some ⟨k.g, 0, none⟩)] 124)) 22 #[.slice A o.length c]
    rw [World.size_alloc, World.size_alloc] at h0
    rw [hw3, hgO]; exact h0
  have hb23 : Below w2.heap.size w2 w3 := by rw [hw3]; exact (((Below.refl _ _).alloc (Nat.le_refl _) _).alloc (by simp) _).alloc (by simp; omega) _
  have hs3 : w3.heap.size = w2.heap.size + 3 := by rw [hw3]; simp
  have hb12 := HB2.out.size
  have HB23 := Lib.hid hb23
  have K8 := Lib.hid k8
  have KQ := Lib.hid kQ
  have KO := Lib.hid kO
  have hml : o.length + 1 ≤ maxLen := by simp only [maxLen]; omega
  have HG8 := Lib.hid hg8
  have i1 : g8 < w3.heap.size ∧ gQ < w3.heap.size ∧ gO < w3.heap.size := ⟨by omega, by omega, by omega⟩
  have i2 : w2.heap.size ≤ g8 ∧ w2.heap.size ≤ gQ ∧ w2.heap.size ≤ gO := ⟨by omega, by omega, by omega⟩
  have i3 : gO ≠ g8 ∧ gQ ≠ g8 := ⟨by omega, by omega⟩
  have i4 : w2.heap.size ≤ w3.heap.size := by omega
  obtain ⟨i11, i12, i13⟩ := i1
  obtain ⟨i21, i22, i23⟩ := i2
  obtain ⟨i31, i32⟩ := i3
  clear hw3 k8 kQ kO hb23 HW3 hg8 hgQ hgO hs3
  refine range_cell rfl (by omega) (gf := 114) (lb := #[.pointer (some ⟨gO, 0, none⟩), .pointer (some ⟨gQ, 0, none⟩)]) rfl trivial (enters_of Try.func114 (by kernel_rfl) rfl)
    (slots_in 2 (by omega) t x k w1.heap.size gO gQ A c o w2 w3 HCH.out HK.out (by omega) HOE.out ((HA1.out.below HB2.out).mono HB2.out.size) HB23.out KO.out KQ.out (fun _ => True) (fun _ _ => trivial)) (Below.refl _ _) (fun _ => rfl) ?kl
    (fun pre W => ∃ v, Boxed W g8 59 v ∧ W.ownsRow w3.heap.size 63 4 v pre.length ((pre.map (·.2)).flatMap encSlo) ∧ (∀ r, w3.heap.size ≤ r → r ≤ w3.heap.size + 2 → v.ownBlock ≠ some r) ∧ Below w2.heap.size w2 W) (fun _ _ _ => False) ?hI (fun _ _ _ _ _ _ _ h _ => h) ⟨_, K8.out, World.ownsRow_nil _ _ _ _, fun r _ _ => by simp [Value.ownBlock], HB23.out⟩ ?round ?done (fun _ _ _ _ h _ => h.elim)
  case kl =>
    rintro X Y Z hsz ⟨h1, h2, h3, h4⟩ hg
    have key : ∀ j, j ≠ w3.heap.size + 1 → Kept j X Y → Kept j X Z := fun j hj h o ho => by
      have := h o ho
      exact (hg.block j (Array.getElem?_eq_some_iff.1 this).1 (fun e => hj (by injection e))).trans this
    exact ⟨h1.grown hg (by have := h1.size; omega) (fun j hj => by injection hj with hj; omega), key gO (by omega) h2, key gQ (by omega) h3, key _ (by omega) h4⟩
  case hI =>
    rintro s X Y r h1 h2 ⟨v, q1, q2, q3, q4⟩ hg
    have hb : Below w2.heap.size w2 Y := q4.grown hg q4.size (fun j hj => by injection hj with hj; omega)
    exact ⟨v, q1.kept hg (fun e => by injection e with e; omega), q2.kept hg (.inr (q3 r h1 h2)), q3, hb⟩
  case round =>
    rintro l pre ⟨qi, sl⟩ W - ⟨v, q1, q2, q3, q4⟩ hlen hsz
    dsimp only [encsS, slV]
    gi_wp2
    obtain ⟨gX, hgX⟩ : ∃ g, g = W.heap.size := ⟨_, rfl⟩
    have hq4 := q4.size
    refine ⟨⟨Below.heap_alloc W _ _ (by omega), Below.heap_alloc W _ _ (by omega)⟩, fun W2 hg2 hs2 => ?_⟩
    have kX : Blk W2 gX 63 #[.int .i64 sl.edition, .int .i64 sl.plates, .int .i64 sl.beg, .int .i64 sl.fin] := by
      rw [hgX]; exact (Blk.new W 63 _).grown hg2 (fun e => by injection e with e; omega)
    have hs2' : W2.heap.size = W.heap.size + 1 := by rw [hs2]; simp
    have b8 : Boxed W2 g8 59 v := (q1.alloc _).kept hg2 (fun e => by injection e with e; omega)
    have row2 := (q2.alloc (.cells #[.int .i64 sl.edition, .int .i64 sl.plates, .int .i64 sl.beg, .int .i64 sl.fin] 63)).kept hg2 (.inr (q3 (w3.heap.size + 1) (by omega) (by omega)))
    obtain ⟨A1, c1, hv⟩ := own_shape row2
    subst hv
    have e8 := b8.cell
    have x0 := kX.cell 0
    have x1 := kX.cell 1
    have x2 := kX.cell 2
    have x3 := kX.cell 3
    simp at x0 x1 x2 x3
    have hlt8 := b8.lt
    have hltX := kX.lt
    rw [← hgX]
    have HB8 := Lib.hid b8
    have HR2 := Lib.hid row2
    have HG2 := Lib.hid hg2
    have HQ4 := Lib.hid q4
    have HQ3 := Lib.hid q3
    have hm1 : pre.length + 1 ≤ maxLen := by omega
    have hm2 : (pre.length + 1) * 32 ≤ 140737488355328 := by omega
    have hwb : w3.heap.size ≤ W2.heap.size := by omega
    have HST := Lib.hid (show ∀ (v9 : Value) (w9 : World), (W2.alloc (.cells #[.int .i64 sl.edition, .int .i64 sl.plates, .int .i64 sl.beg, .int .i64 sl.fin] 63)).grownBy w9 (Value.slice A1 pre.length c1).ownBlock → (v9.ownBlock = (Value.slice A1 pre.length c1).ownBlock ∨ v9.ownBlock = some (W2.heap.size + 1)) →
        Boxed w9 g8 59 (.slice A1 pre.length c1) ∧ (∀ j, j < W.heap.size → j ≠ g8 → j ≠ w3.heap.size + 1 → (Value.slice A1 pre.length c1).ownBlock ≠ some j → (w9.setCell ⟨g8, 0, none⟩ v9).heap[j]? = W.heap[j]?) ∧ (∀ j, j < W.heap.size → j ≠ g8 → (Value.slice A1 pre.length c1).ownBlock ≠ some j → (w9.setCell ⟨g8, 0, none⟩ v9).heap[j]? = W2.heap[j]?) ∧ Below w2.heap.size W (w9.setCell ⟨g8, 0, none⟩ v9) ∧ (∀ r, w3.heap.size ≤ r → r ≤ w3.heap.size + 2 → v9.ownBlock ≠ some r) from by
      intro v9 w9 hg9 hat9
      have b89 : Boxed w9 g8 59 (.slice A1 pre.length c1) := (b8.alloc _).kept hg9 (b8.not_row (by decide) row2)
      have k2 : ∀ j, j < W.heap.size → j ≠ g8 → (Value.slice A1 pre.length c1).ownBlock ≠ some j → (w9.setCell ⟨g8, 0, none⟩ v9).heap[j]? = W2.heap[j]? := by
        intro j h1 h2 h3
        rw [Below.heap_setCell w9 _ v9 j (by exact h2), hg9.block j (by simp; omega) (fun e => h3 e.symm), Below.heap_alloc W2 _ j (by omega)]
      have k1 : ∀ j, j < W.heap.size → j ≠ g8 → j ≠ w3.heap.size + 1 → (Value.slice A1 pre.length c1).ownBlock ≠ some j → (w9.setCell ⟨g8, 0, none⟩ v9).heap[j]? = W.heap[j]? := by
        intro j h1 h2 h3 h4
        rw [k2 j h1 h2 h4, hg2.block j (by simp; omega) (fun e => h3 (by injection e)), Below.heap_alloc W _ j h1]
      refine ⟨b89, k1, k2, ?_, ?_⟩
      · refine ⟨?_, ?_, ?_, ?_, fun j hj => k1 j (by omega) (by omega) (by omega) (fun e => ?_)⟩
        · exact (hg9.os.trans hg2.os)
        · exact (hg9.tape.trans hg2.tape)
        · exact (hg9.output.trans hg2.output)
        · have h1 := hg9.size
          have h2 : (w9.setCell ⟨g8, 0, none⟩ v9).heap.size = w9.heap.size := by simp [World.setCell]
          rw [h2]; simp at h1; omega
        · have := (row2.lt j e).1; omega
      · intro r h1 h2 e
        rcases hat9 with h | h
        · rw [h] at e; exact q3 r h1 h2 e
        · rw [h] at e; injection e with e; omega)
    have HGX := Lib.hid hgX
    clear q1 q2 q3 q4 b8 kX row2 hg2 hs2 hs2' hgX
    gi_wp2_with (gi_at_builtin; refine wpListIn_append_own_at _ rfl (.tmp 25) (.tmp 27) 59 rfl w3.heap.size 63 i0 _ 4 32 Try.underlying59 HI.out hz0 hz1 hz2 rfl (by decide) (.slice A1 pre.length c1) pre.length ((pre.map (·.2)).flatMap encSlo) rfl (HR2.out.alloc _) ⟨W2.heap.size, 0, none⟩ 1 1 [.int .i64 sl.edition, .int .i64 sl.plates, .int .i64 sl.beg, .int .i64 sl.fin] rfl rfl (news_of1 W2 63 #[.int .i64 sl.edition, .int .i64 sl.plates, .int .i64 sl.beg, .int .i64 sl.fin]) (by intro u hu; simp at hu; rcases hu with rfl | rfl | rfl | rfl <;> rfl) hm1 hm2 (by simp; omega) ?_; intro v9 w9 hown9 hgrow9 hiff9 hat9; obtain ⟨g9, c9, hv9⟩ := ownsRow_succ hown9; subst hv9; have h9 := HST.out _ w9 hgrow9 (by rcases hat9 with h | h; (exact .inl h); (exact .inr (by rw [h]; simp))); have e9 := h9.1.cell; have f9 := h9.1.frozen; have H9 := Lib.hid h9; have HO9 := Lib.hid hown9; clear h9 hown9 hgrow9 hiff9 hat9)
    have hge : ∀ j, (Value.slice A1 pre.length c1).ownBlock = some j → w3.heap.size ≤ j := fun j e => (HR2.out.lt j e).1
    have kp : ∀ j, j < w3.heap.size → j ≠ g8 → Kept j W (w9.setCell ⟨g8, 0, none⟩ (.slice (some ⟨g9, 0, none⟩) (pre.length + 1) c9)) := fun j h1 h2 o' ho => by
      rw [H9.out.2.1 j (Array.getElem?_eq_some_iff.1 ho).1 h2 (by omega) (fun e => by have := hge j e; omega)]; exact ho
    refine ⟨⟨H9.out.2.2.1 _ (by omega) (by omega) (HQ3.out _ (by omega) (by omega)), H9.out.2.2.1 _ (by omega) (by omega) (HQ3.out _ (by omega) (by omega))⟩, ⟨H9.out.2.2.2.1, kp gO (by omega) (by omega), kp gQ (by omega) (by omega), fun o' ho => ?_⟩, (.slice (some ⟨g9, 0, none⟩) (pre.length + 1) c9), H9.out.1.set (.slice (some ⟨g9, 0, none⟩) (pre.length + 1) c9), ?_, H9.out.2.2.2.2, HQ4.out.trans H9.out.2.2.2.1⟩
    · rw [H9.out.2.1 _ (Array.getElem?_eq_some_iff.1 ho).1 (by omega) (by omega) (HQ3.out _ (by omega) (by omega))]; exact ho
    · have := HO9.out.kept (grownBy_setCell' w9 g8 (.slice (some ⟨g9, 0, none⟩) (pre.length + 1) c9)) (.inr (fun e => H9.out.1.not_row (by decide) HO9.out e.symm))
      rw [List.length_append, List.map_append, List.flatMap_append]
      exact this
  case done =>
    rintro xs W rfl ⟨v, q1, q2, q3, q4⟩ hK
    have hxs : (upF (itF t (edsR t) o) o.length).map (·.2) = slotsD t (edsR t) o := by unfold slotsD upF; rw [List.map_map]; rfl
    have hln : (slotsD t (edsR t) o).length = o.length := upF_len _ _
    rw [hxs, upF_len, ← hln] at q2
    obtain ⟨A1, c1, hv⟩ := own_shape q2
    subst hv
    have e8 := q1.cell
    have Q2 := Lib.hid q2
    have Q4 := Lib.hid q4
    have HLN := Lib.hid hln
    have hbD : Below w.heap.size W (W.putObj w3.heap.size (.deferred none)) := by
      refine ⟨rfl, rfl, rfl, by simp [World.putObj], fun j hj => ?_⟩
      exact World.putObj_heap_other (by have := HB1.out.size; omega)
    have HBD := Lib.hid hbD
    have hown := ownsRow_putObj q2 (.deferred none) hK rfl
    have HOW := Lib.hid hown
    clear hxs hln q1 q2 q3 q4 hbD hown
    gi_wp2
    refine ⟨by simp, .inl ⟨_, _, rfl, run_takeDeferred hK, ?_⟩⟩
    refine ⟨.tuple #[.slice A1 (slotsD t (edsR t) o).length c1, .int .i64 0], by simp [results, Try.f24, go_sem], ⟨A1, c1, rfl, World.ownsRow.mono HOW.out (by have := HB1.out.size; omega), ?_⟩⟩
    exact (HB1.out.trans ((HB2.out.trans (Q4.out.mono HB2.out.size)).mono HB1.out.size)).trans HBD.out
end
end Go.Proofs.Ytokdleanpkkdpaa
