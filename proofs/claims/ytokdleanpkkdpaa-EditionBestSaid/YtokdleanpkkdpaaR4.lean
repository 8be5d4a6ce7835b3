/- Contract of InTime; conditions: lengths that a title has. -/
import Derived.Test.YtokdleanpkkdpaaR3
set_option linter.unusedSimpArgs false
set_option linter.unusedVariables false
namespace Go.Ed
/-- whether the slot at a place is late -/
def lateAt (t : TitD) (es : List EdD) (o : List Nat) (i : Nat) : Bool := lateB es (slotAt t es o i)
/-- no slot is late -/
def noLate (t : TitD) (es : List EdD) (o : List Nat) : Prop := ∀ i, i < o.length → lateAt t es o i = false
/-- the first late slot -/
def firstLate (t : TitD) (es : List EdD) (o : List Nat) (i : Nat) : Prop := i < o.length ∧ lateAt t es o i = true ∧ ∀ j, j < i → lateAt t es o j = false
def finAt (t : TitD) (es : List EdD) (o : List Nat) (k : Nat) : Int := if k = 0 then 0 else (slotAt t es o (k - 1)).fin
/-- the end of the last of some slots -/
def lastFin (pre : List (Nat × SloD)) : Int := ((pre.getLast?).map fun y => y.2.fin).getD 0
theorem late_or (t : TitD) (es : List EdD) (o : List Nat) : noLate t es o ∨ ∃ i, firstLate t es o i := by
  have key : ∀ k, k ≤ o.length → (∀ i, i < k → lateAt t es o i = false) ∨ ∃ i, firstLate t es o i := by
    intro k
    induction k with
    | zero => intro _; exact .inl fun i h => by omega
    | succ k ih =>
      intro hk
      rcases ih (by omega) with h | h
      · cases hl : lateAt t es o k
        · exact .inl fun i hi => by
            by_cases e : i = k
            · subst e; exact hl
            · exact h i (by omega)
        · exact .inr ⟨k, by omega, hl, h⟩
      · exact .inr h
  rcases key o.length (Nat.le_refl _) with h | h
  · exact .inl h
  · exact .inr h
end Go.Ed
namespace Go.Proofs.Ytokdleanpkkdpaa
open Go.RowKit Go.Fh Go.Ed Go.Shelf
attribute [local go_sem] Oper.semAt_some
theorem blkAt {w : World} {n : Nat} (h : w.heap.size = n) (ty : TypeId) (cs : Array Value) : Blk (w.alloc (.cells cs ty)) n ty cs := by subst h; exact Blk.new w ty cs
set_option maxRecDepth 20000 in
set_option maxHeartbeats 2000000 in
theorem InTime_bad (t : TitD) (x : TA) (zs : List ZonM) (w : World) (hs : Sizes t) (hT : TitAt w w.heap.size t x zs) (A : Option Addr) (c : Nat) (l : List Int) (hc : checkT t ≠ 0) :
    Calls Try.prog 31 #[.agg (titV t x), .slice A l.length c] w fun e w' => e = .returned (.tuple #[.int .i64 0, .int .i64 (checkT t)]) ∧ Below w.heap.size w w' := by
  obtain ⟨w0, hw0⟩ : ∃ W, W = (w.alloc (.cells (titV t x) 26)).alloc (.cells #[.int .i64 0] 3) := ⟨_, rfl⟩
  obtain ⟨w1, hw1⟩ : ∃ W, W = w0.alloc (.cells #[.int .i64 0] 35) := ⟨_, rfl⟩
  have hb0 : Below w.heap.size w w0 := by rw [hw0]; exact ((Below.refl _ _).alloc (Nat.le_refl _) _).alloc (by simp) _
  have hb1 : Below w.heap.size w w1 := by rw [hw1]; exact hb0.alloc hb0.size _
  obtain ⟨gT, hgT⟩ : ∃ g, g = w.heap.size := ⟨_, rfl⟩
  obtain ⟨gA, hgA⟩ : ∃ g, g = w.heap.size + 1 := ⟨_, rfl⟩
  obtain ⟨gB, hgB⟩ : ∃ g, g = w.heap.size + 1 + 1 := ⟨_, rfl⟩
  have kT : Blk w1 gT 26 (titV t x) := by rw [hw1, hw0, hgT]; exact ((Blk.new _ _ _).alloc _).alloc _
  have kA : Blk w1 gA 3 #[.int .i64 0] := by
    have h0 := Blk.new (w.alloc (.cells (titV t x) 26)) 3 #[.int .i64 0]
    rw [World.size_alloc] at h0
    rw [hw1, hw0, hgA]; exact h0.alloc _
  have kB : Blk w1 gB 35 #[.int .i64 0] := by
    have h0 := Blk.new ((w.alloc (.cells (titV t x) 26)).alloc (.cells #[.int .i64 0] 3)) 35 #[.int .i64 0]
    rw [World.size_alloc, World.size_alloc] at h0
    rw [hw1, hw0, hgB]; exact h0
  have hw1' : w1 = ((w.alloc (.cells (titV t x) 26)).alloc (.cells #[.int .i64 0] 3)).alloc (.cells #[.int .i64 0] 35) := by rw [hw1, hw0]
  have r0 := kT.cell 0
  have r1 := kT.cell 1
  have r2 := kT.cell 2
  have r3 := kT.cell 3
  have r4 := kT.cell 4
  have r5 := kT.cell 5
  have r6 := kT.cell 6
  have r7 := kT.cell 7
  simp [titV] at r0 r1 r2 r3 r4 r5 r6 r7
  have HCK := Lib.hid (ask_bad t x zs w1 hs ((hT.below hb1).mono hb1.size) A c l hc)
  obtain ⟨ck, hck⟩ : ∃ c, c = checkT t := ⟨_, rfl⟩
  rw [← hck] at HCK hc ⊢
  have ht : (ck != 0) = true := by simpa using hc
  have HB1 := Lib.hid hb1
  have HW1 := Lib.hid hw1'
  have HGT := Lib.hid hgT
  have HGA := Lib.hid hgA
  have HGB := Lib.hid hgB
  have KA := Lib.hid kA
  have KB := Lib.hid kB
  have hnl : w.heap.size ≤ gA ∧ w.heap.size ≤ gB ∧ gA ≠ gB := by omega
  obtain ⟨hn1, hn2, hn3⟩ := hnl
  clear hb0 hb1 hw0 hw1 hw1' hgT hgA hgB kT kA kB hT hs hc hck
  unfold titV at *
  go_enter Try.func31, Try.ntmps31
  go_upto_region 1 with fail
  rw [← HW1.out, ← HGB.out, ← HGA.out, ← HGT.out]
  go_wp2_with (go_at_call 63; refine HCK.out.mono ?_; rintro e w2 ⟨rfl, hb2⟩; have HB2 := Lib.hid hb2; clear hb2; have k1 := (KA.out.below HB2.out KA.out.lt).cell 0; have k2 := (KB.out.below HB2.out KB.out.lt).cell 0; have f1 := (KA.out.below HB2.out KA.out.lt).frozen 0; have f2 := (KB.out.below HB2.out KB.out.lt).frozen 0; have hs1 := Nat.lt_of_lt_of_le KA.out.lt HB2.out.size; have hs2 := Nat.lt_of_lt_of_le KB.out.lt HB2.out.size; simp at k1 k2)
  have kA3 := ((KA.out.below HB2.out KA.out.lt).set_ 0 (.int .i64 0)).far (p := ⟨gB, 0, none⟩) (by exact hn3) (.int .i64 ck)
  have kB3 := ((KB.out.below HB2.out KB.out.lt).far (p := ⟨gA, 0, none⟩) (by exact hn3.symm) (.int .i64 0)).set_ 0 (.int .i64 ck)
  have z1 := (kA3.alloc (.cells #[.pointer none] 124)).cell 0
  have z2 := (kB3.alloc (.cells #[.pointer none] 124)).cell 0
  simp at z1 z2
  refine bodyPost_ret (v := .tuple #[.int .i64 0, .int .i64 ck]) (by simp [results, Try.results31, go_sem, z1, z2]) rfl ⟨rfl, ?_⟩
  exact (((HB1.out.trans (HB2.out.mono HB1.out.size)).setCell (p := ⟨gA, 0, none⟩) (by exact hn1) _).setCell (p := ⟨gB, 0, none⟩) (by exact hn2) _).alloc (by have := (HB1.out.trans (HB2.out.mono HB1.out.size)).size; simpa [World.setCell] using this) _
set_option maxRecDepth 20000 in
set_option maxHeartbeats 2000000 in
theorem InTime_arg (t : TitD) (x : TA) (zs : List ZonM) (w : World) (hs : Sizes t) (hT : TitAt w w.heap.size t x zs) (A : Option Addr) (c : Nat) (l : List Int) (hl : l.length ≤ 1000000000) (hA : Sl encInt 1 w w.heap.size A l) (hc : checkT t = 0) (ho : ordersB (edsR t).length l = false) :
    Calls Try.prog 31 #[.agg (titV t x), .slice A l.length c] w fun e w' => e = .returned (.tuple #[.int .i64 0, .int .i64 1]) ∧ Below w.heap.size w w' := by
  obtain ⟨w0, hw0⟩ : ∃ W, W = (w.alloc (.cells (titV t x) 26)).alloc (.cells #[.int .i64 0] 3) := ⟨_, rfl⟩
  obtain ⟨w1, hw1⟩ : ∃ W, W = w0.alloc (.cells #[.int .i64 0] 35) := ⟨_, rfl⟩
  have hb0 : Below w.heap.size w w0 := by rw [hw0]; exact ((Below.refl _ _).alloc (Nat.le_refl _) _).alloc (by simp) _
  have hb1 : Below w.heap.size w w1 := by rw [hw1]; exact hb0.alloc hb0.size _
  obtain ⟨gT, hgT⟩ : ∃ g, g = w.heap.size := ⟨_, rfl⟩
  obtain ⟨gA, hgA⟩ : ∃ g, g = w.heap.size + 1 := ⟨_, rfl⟩
  obtain ⟨gB, hgB⟩ : ∃ g, g = w.heap.size + 1 + 1 := ⟨_, rfl⟩
  have kT : Blk w1 gT 26 (titV t x) := by rw [hw1, hw0, hgT]; exact ((Blk.new _ _ _).alloc _).alloc _
  have kA : Blk w1 gA 3 #[.int .i64 0] := by
    have h0 := Blk.new (w.alloc (.cells (titV t x) 26)) 3 #[.int .i64 0]
    rw [World.size_alloc] at h0
    rw [hw1, hw0, hgA]; exact h0.alloc _
  have kB : Blk w1 gB 35 #[.int .i64 0] := by
    have h0 := Blk.new ((w.alloc (.cells (titV t x) 26)).alloc (.cells #[.int .i64 0] 3)) 35 #[.int .i64 0]
    rw [World.size_alloc, World.size_alloc] at h0
    rw [hw1, hw0, hgB]; exact h0
  have hw1' : w1 = ((w.alloc (.cells (titV t x) 26)).alloc (.cells #[.int .i64 0] 3)).alloc (.cells #[.int .i64 0] 35) := by rw [hw1, hw0]
  have r0 := kT.cell 0
  have r1 := kT.cell 1
  have r2 := kT.cell 2
  have r3 := kT.cell 3
  have r4 := kT.cell 4
  have r5 := kT.cell 5
  have r6 := kT.cell 6
  have r7 := kT.cell 7
  simp [titV] at r0 r1 r2 r3 r4 r5 r6 r7
  have HCK := Lib.hid (ask_ok t x zs w1 hs ((hT.below hb1).mono hb1.size) A c l hl ((hA.below hb1).mono hb1.size) hc)
  rw [ho] at HCK
  simp only [Bool.false_eq_true, if_false] at HCK
  have HB1 := Lib.hid hb1
  have HW1 := Lib.hid hw1'
  have HGT := Lib.hid hgT
  have HGA := Lib.hid hgA
  have HGB := Lib.hid hgB
  have KA := Lib.hid kA
  have KB := Lib.hid kB
  have hnl : w.heap.size ≤ gA ∧ w.heap.size ≤ gB ∧ gA ≠ gB := by omega
  obtain ⟨hn1, hn2, hn3⟩ := hnl
  clear hb0 hb1 hw0 hw1 hw1' hgT hgA hgB kT kA kB hT hs hc hA ho
  unfold titV at *
  go_enter Try.func31, Try.ntmps31
  go_upto_region 1 with fail
  rw [← HW1.out, ← HGB.out, ← HGA.out, ← HGT.out]
  go_wp2_with (go_at_call 63; refine HCK.out.mono ?_; rintro e w2 ⟨k, rfl, hk, hb2⟩; have HB2 := Lib.hid hb2; clear hb2 hk; have k1 := (KA.out.below HB2.out KA.out.lt).cell 0; have k2 := (KB.out.below HB2.out KB.out.lt).cell 0; have f1 := (KA.out.below HB2.out KA.out.lt).frozen 0; have f2 := (KB.out.below HB2.out KB.out.lt).frozen 0; have hs1 := Nat.lt_of_lt_of_le KA.out.lt HB2.out.size; have hs2 := Nat.lt_of_lt_of_le KB.out.lt HB2.out.size; simp at k1 k2)
  have kA3 := ((KA.out.below HB2.out KA.out.lt).set_ 0 (.int .i64 0)).far (p := ⟨gB, 0, none⟩) (by exact hn3) (.int .i64 1)
  have kB3 := ((KB.out.below HB2.out KB.out.lt).far (p := ⟨gA, 0, none⟩) (by exact hn3.symm) (.int .i64 0)).set_ 0 (.int .i64 1)
  have z1 := (kA3.alloc (.cells #[.pointer (some ⟨k.g, 0, none⟩)] 124)).cell 0
  have z2 := (kB3.alloc (.cells #[.pointer (some ⟨k.g, 0, none⟩)] 124)).cell 0
  simp at z1 z2
  refine bodyPost_ret (v := .tuple #[.int .i64 0, .int .i64 1]) (by simp [results, Try.results31, go_sem, z1, z2]) rfl ⟨rfl, ?_⟩
  exact (((HB1.out.trans (HB2.out.mono HB1.out.size)).setCell (p := ⟨gA, 0, none⟩) (by exact hn1) _).setCell (p := ⟨gB, 0, none⟩) (by exact hn2) _).alloc (by have := (HB1.out.trans (HB2.out.mono HB1.out.size)).size; simpa [World.setCell] using this) _
set_option maxRecDepth 100000 in
set_option maxHeartbeats 4000000 in
theorem InTime_ok (t : TitD) (x : TA) (zs : List ZonM) (w : World) (hs : Sizes t) (hT : TitAt w w.heap.size t x zs) (A : Option Addr) (c : Nat) (o : List Nat) (hl : o.length ≤ 1000) (hA : Sl encInt 1 w w.heap.size A (o.map fun (e : Nat) => (e : Int))) (hc : checkT t = 0) (ho : ordersB (edsR t).length (o.map fun (e : Nat) => (e : Int)) = true) :
    Calls Try.prog 31 #[.agg (titV t x), .slice A o.length c] w fun e w' => ((noLate t (edsR t) o ∧ e = .returned (.tuple #[.int .i64 (finAt t (edsR t) o o.length), .int .i64 0])) ∨ (∃ i : Nat, firstLate t (edsR t) o i ∧ e = .returned (.tuple #[.int .i64 (i : Int), .int .i64 12]))) ∧ Below w.heap.size w w' := by
  obtain ⟨w0, hw0⟩ : ∃ W, W = (w.alloc (.cells (titV t x) 26)).alloc (.cells #[.int .i64 0] 3) := ⟨_, rfl⟩
  obtain ⟨w1, hw1⟩ : ∃ W, W = w0.alloc (.cells #[.int .i64 0] 35) := ⟨_, rfl⟩
  have hb0 : Below w.heap.size w w0 := by rw [hw0]; exact ((Below.refl _ _).alloc (Nat.le_refl _) _).alloc (by simp) _
  have hb1 : Below w.heap.size w w1 := by rw [hw1]; exact hb0.alloc hb0.size _
  obtain ⟨gT, hgT⟩ : ∃ g, g = w.heap.size := ⟨_, rfl⟩
  obtain ⟨gA, hgA⟩ : ∃ g, g = w.heap.size + 1 := ⟨_, rfl⟩
  obtain ⟨gB, hgB⟩ : ∃ g, g = w.heap.size + 1 + 1 := ⟨_, rfl⟩
  have kT : Blk w1 gT 26 (titV t x) := by rw [hw1, hw0, hgT]; exact ((Blk.new _ _ _).alloc _).alloc _
  have kA : Blk w1 gA 3 #[.int .i64 0] := by
    have h0 := Blk.new (w.alloc (.cells (titV t x) 26)) 3 #[.int .i64 0]
    rw [World.size_alloc] at h0
    rw [hw1, hw0, hgA]; exact h0.alloc _
  have kB : Blk w1 gB 35 #[.int .i64 0] := by
    have h0 := Blk.new ((w.alloc (.cells (titV t x) 26)).alloc (.cells #[.int .i64 0] 3)) 35 #[.int .i64 0]
    rw [World.size_alloc, World.size_alloc] at h0
    rw [hw1, hw0, hgB]; exact h0
  have hw1' : w1 = ((w.alloc (.cells (titV t x) 26)).alloc (.cells #[.int .i64 0] 3)).alloc (.cells #[.int .i64 0] 35) := by rw [hw1, hw0]
  have r0 := kT.cell 0
  have r1 := kT.cell 1
  have r2 := kT.cell 2
  have r3 := kT.cell 3
  have r4 := kT.cell 4
  have r5 := kT.cell 5
  have r6 := kT.cell 6
  have r7 := kT.cell 7
  simp [titV] at r0 r1 r2 r3 r4 r5 r6 r7
  have hlo : (o.map fun (e : Nat) => (e : Int)).length = o.length := by simp
  have HCK := Lib.hid (ask_ok t x zs w1 hs ((hT.below hb1).mono hb1.size) A c (o.map fun (e : Nat) => (e : Int)) (by rw [hlo]; omega) ((hA.below hb1).mono hb1.size) hc)
  rw [hlo, ho] at HCK
  simp only [if_true] at HCK
  have hoe : ∀ e ∈ o, e < (edsR t).length := by
    intro e he
    unfold ordersB at ho
    simp only [Bool.and_eq_true] at ho
    have := inB_iff.1 (List.all_eq_true.1 ho.1.2 (e : Int) (List.mem_map.2 ⟨e, he, rfl⟩))
    omega
  have HT1 := Lib.hid ((hT.below hb1).mono hb1.size)
  have HA1 := Lib.hid ((hA.below hb1).mono hb1.size)
  have hch := chk_ok hc
  have HB1 := Lib.hid hb1
  have HW1 := Lib.hid hw1'
  have HGT := Lib.hid hgT
  have HGA := Lib.hid hgA
  have HGB := Lib.hid hgB
  have KA := Lib.hid kA
  have KB := Lib.hid kB
  have HCH := Lib.hid hch
  have HOE := Lib.hid hoe
  have hol : o.length ≤ 7 := by
    have h1 := (eds_le hc).2
    unfold ordersB at ho
    simp only [Bool.and_eq_true, decide_eq_true_eq] at ho
    have := ho.1.1
    rw [hlo] at this
    omega
  have hnl : w.heap.size ≤ gA ∧ w.heap.size ≤ gB ∧ gA ≠ gB := by omega
  obtain ⟨hn1, hn2, hn3⟩ := hnl
  clear hb0 hb1 hw0 hw1 hw1' hgT hgA hgB kT kA kB hT hs hc hA ho hoe hlo hch
  refine (callsIn_wide (n := 3)).1 ?_
  unfold titV at *
  refine callsIn_of_wp_marks Try.func31 rfl trivial ?_ rfl
  simp only [Try.ntmps31, List.size_toArray, List.length_cons, List.length_nil, Nat.reduceAdd, Nat.reduceSub, Array.replicate_succ, Array.replicate_zero, List.push_toArray, List.append_toArray, List.nil_append, List.cons_append]
  gi_upto_region 1 with fail
  rw [← HW1.out, ← HGB.out, ← HGA.out, ← HGT.out]
  gi_wp2_with (first
    | (refine ⟨trivial, ?_⟩; gi_at_call 63; refine (callsIn_wide.2 HCK.out).mono ?_; rintro e w2 ⟨k, rfl, hk, hb2⟩; have HB2 := Lib.hid hb2; have HK := Lib.hid hk; clear hb2 hk)
    | (refine ⟨trivial, ?_⟩; gi_at_call 70; refine (callsIn_wide.2 (slots70_any _ _ _ _ _)).mono ?_; rintro e w3 ⟨rfl, hw3⟩; have HW3 := Lib.hid hw3; clear hw3))
  obtain ⟨gP, hgP⟩ : ∃ g, g = w2.heap.size := ⟨_, rfl⟩
  obtain ⟨gE, hgE⟩ : ∃ g, g = w2.heap.size + 1 := ⟨_, rfl⟩
  obtain ⟨gQ, hgQ⟩ : ∃ g, g = w2.heap.size + 1 + 1 := ⟨_, rfl⟩
  obtain ⟨gO, hgO⟩ : ∃ g, g = w2.heap.size + 1 + 1 + 1 := ⟨_, rfl⟩
  rw [← hgO, ← hgQ, ← hgE, ← hgP]
  have hw3 := HW3.out
  have kP : Blk w3 gP 124 #[.pointer (some ⟨k.g, 0, none⟩)] := by rw [hw3, hgP]; exact (((blkAt rfl 124 _).alloc _).alloc _).alloc _
  have kE : Blk w3 gE 3 #[.int .i64 0] := by rw [hw3, hgE]; exact ((blkAt (by simp) 3 _).alloc _).alloc _
  have kQ : Blk w3 gQ 124 #[.pointer (some ⟨k.g, 0, none⟩)] := by rw [hw3, hgQ]; exact (blkAt (by simp) 124 _).alloc _
  have kO : Blk w3 gO 22 #[.slice A o.length c] := by rw [hw3, hgO]; exact blkAt (by simp) 22 _
  have hb23 : Below w2.heap.size w2 w3 := by rw [hw3]; exact ((((Below.refl _ _).alloc (Nat.le_refl _) _).alloc (by simp) _).alloc (by simp; omega) _).alloc (by simp; omega) _
  have hs3 : w3.heap.size = w2.heap.size + 4 := by rw [hw3]; simp
  have hb12 := HB2.out.size
  have HB23 := Lib.hid hb23
  have KP := Lib.hid kP
  have KE := Lib.hid kE
  have KQ := Lib.hid kQ
  have KO := Lib.hid kO
  have hA1 := KA.out.lt
  have hB1' := KB.out.lt
  have hb1s := HB1.out.size
  have i1 : gP < w3.heap.size ∧ gE < w3.heap.size ∧ gQ < w3.heap.size ∧ gO < w3.heap.size := by omega
  have i2 : w2.heap.size ≤ gP ∧ w2.heap.size ≤ gE ∧ w2.heap.size ≤ gQ ∧ w2.heap.size ≤ gO := by omega
  have i3 : gP ≠ gE ∧ gQ ≠ gE ∧ gO ≠ gE ∧ gA < w2.heap.size ∧ gB < w2.heap.size ∧ w2.heap.size ≤ w3.heap.size := by omega
  obtain ⟨i11, i12, i13, i14⟩ := i1
  obtain ⟨i21, i22, i23, i24⟩ := i2
  obtain ⟨i31, i32, i33, i34, i35, i36⟩ := i3
  have HKl := Lib.hid (show ∀ W, Below w2.heap.size w2 W → WorkAt W w1.heap.size t x k from fun W hb => HK.out.below hb)
  clear hw3 kP kE kQ kO hb23 HW3 hgP hgE hgQ hgO hs3
  refine range_cell rfl (by omega) (gf := 114) (lb := #[.pointer (some ⟨gO, 0, none⟩), .pointer (some ⟨gQ, 0, none⟩)]) rfl trivial (enters_of Try.func114 (by kernel_rfl) rfl)
    (slots_in 2 (by omega) t x k w1.heap.size gO gQ A c o w2 w3 HCH.out HK.out (by omega) HOE.out ((HA1.out.below HB2.out).mono HB2.out.size) HB23.out KO.out KQ.out (fun p => ∃ e : Nat, e < (edsR t).length ∧ p.2.edition = (e : Int)) (fun i hi => ⟨o[i], HOE.out _ (List.getElem_mem hi), slotAt_ed _ _ _ hi⟩)) (Below.refl _ _) (fun _ => rfl) ?kl
    (fun pre W => Blk W gE 3 #[.int .i64 (lastFin pre)] ∧ Blk W gP 124 #[.pointer (some ⟨k.g, 0, none⟩)] ∧ (∀ y ∈ pre, lateB (edsR t) y.2 = false) ∧ Below w2.heap.size w2 W)
    (fun cd pre W => cd = Code.ret ∧ ∃ (pre' : List (Nat × SloD)) (y : Nat × SloD), pre = pre' ++ [y] ∧ lateB (edsR t) y.2 = true ∧ (∀ z ∈ pre', lateB (edsR t) z.2 = false) ∧ Blk W gA 3 #[.int .i64 (y.1 : Int)] ∧ Blk W gB 35 #[.int .i64 12] ∧ Below w.heap.size w W)
    ?hI ?hIx ⟨KE.out, KP.out, fun y hy => absurd hy (by simp), HB23.out⟩ ?round ?done ?stop
  case kl =>
    rintro X Y Z hsz ⟨h1, h2, h3, h4⟩ hg
    have key : ∀ j, j ≠ w3.heap.size + 1 → Kept j X Y → Kept j X Z := fun j hj h o ho => by
      have := h o ho
      exact (hg.block j (Array.getElem?_eq_some_iff.1 this).1 (fun e => hj (by injection e))).trans this
    exact ⟨h1.grown hg (by have := h1.size; omega) (fun j hj => by injection hj with hj; omega), key gO (by omega) h2, key gQ (by omega) h3, key _ (by omega) h4⟩
  case hI =>
    rintro s X Y r h1 h2 ⟨q1, q2, q3, q4⟩ hg
    exact ⟨q1.grown hg (fun e => by injection e with e; omega), q2.grown hg (fun e => by injection e with e; omega), q3, q4.grown hg q4.size (fun j hj => by injection hj with hj; omega)⟩
  case hIx =>
    rintro cd s X Y r h1 h2 ⟨q0, pre', y, q1, q2, q3, q4, q5, q6⟩ hg
    exact ⟨q0, pre', y, q1, q2, q3, q4.grown hg (fun e => by injection e with e; omega), q5.grown hg (fun e => by injection e with e; omega), q6.grown hg q6.size (fun j hj => by injection hj with hj; omega)⟩
  case round =>
    rintro l pre ⟨qi, sl⟩ W ⟨en, hen, hse⟩ ⟨q1, q2, q3, q4⟩ hlen hsz
    dsimp only at hse
    dsimp only [encsS, slV]
    gi_wp2
    obtain ⟨gX, hgX⟩ : ∃ g, g = W.heap.size := ⟨_, rfl⟩
    have hq4 := q4.size
    refine ⟨⟨Below.heap_alloc W _ _ (by omega), Below.heap_alloc W _ _ (by omega)⟩, fun W2 hg2 hs2 => ?_⟩
    have kX : Blk W2 gX 63 #[.int .i64 (en : Int), .int .i64 sl.plates, .int .i64 sl.beg, .int .i64 sl.fin] := by
      rw [hgX]; exact (Blk.new W 63 _).grown hg2 (fun e => by injection e with e; omega)
    have hs2' : W2.heap.size = W.heap.size + 1 := by rw [hs2]; simp
    have kE2 := (q1.alloc (.cells #[.int .i64 (en : Int), .int .i64 sl.plates, .int .i64 sl.beg, .int .i64 sl.fin] 63)).grown hg2 (fun e => by injection e with e; omega)
    have kP2 := (q2.alloc (.cells #[.int .i64 (en : Int), .int .i64 sl.plates, .int .i64 sl.beg, .int .i64 sl.fin] 63)).grown hg2 (fun e => by injection e with e; omega)
    have hbW : Below w2.heap.size w2 W2 := (q4.alloc hq4 _).grown hg2 (by simp; omega) (fun j hj => by injection hj with hj; omega)
    have hold : ∀ j, j < W.heap.size → j ≠ w3.heap.size + 1 → W2.heap[j]? = W.heap[j]? := fun j h1 h2 => by
      rw [hg2.block j (by simp; omega) (fun e => h2 (by injection e)), Below.heap_alloc W _ j h1]
    have hkw := HKl.out W2 hbW
    have hes : en < k.es.length := by rw [hkw.len]; exact hen
    have hlt := late_any t x k.es k.E k.C k.cE k.cC k.g (allB t) en sl.plates sl.beg sl.fin W2 (by rw [hkw.len]; have := (HCH.out).n1; rw [edsR_len]; omega) hes hkw.hk hkw.hE
    have hlb : decide (k.es[en].1.due < sl.fin) = lateB (edsR t) sl := by
      unfold lateB
      rw [hse, Int.toNat_natCast, ← hkw.eds]
      simp [hes]
    rw [hlb] at hlt
    have kA2 := KA.out.below (HB2.out.trans (hbW.mono HB2.out.size)) KA.out.lt
    have kB2 := KB.out.below (HB2.out.trans (hbW.mono HB2.out.size)) KB.out.lt
    have hbw2 := HB1.out.trans ((HB2.out.trans (hbW.mono HB2.out.size)).mono HB1.out.size)
    have p0 := kP2.cell 0
    have x0 := kX.cell 0
    have x1 := kX.cell 1
    have x2 := kX.cell 2
    have x3 := kX.cell 3
    simp at p0 x0 x1 x2 x3
    rw [← hgX]
    have HLT := Lib.hid hlt
    have HXl := kX.lt
    have KX := Lib.hid kX
    have KE2 := Lib.hid kE2
    have KP2 := Lib.hid kP2
    have KA2 := Lib.hid kA2
    have KB2 := Lib.hid kB2
    have HBW := Lib.hid hbW
    have HBW2 := Lib.hid hbw2
    have HOLD := Lib.hid hold
    have HQ3 := Lib.hid q3
    have HQ4 := Lib.hid q4
    have HGX := Lib.hid hgX
    have HG2 := Lib.hid hg2
    have HSE := Lib.hid hse
    have HS2 := Lib.hid hs2'
    clear q1 q2 q3 q4 kX kE2 kP2 hbW hold hkw hlt hlb kA2 kB2 hbw2 hgX hg2 hs2 hs2' hse
    have HLB := Lib.hid (Eq.refl (lateB (edsR t) sl))
    cases hl : lateB (edsR t) sl
    · rw [hl] at HLT
      have HL := Lib.hid hl
      clear hl
      gi_wp2_with (refine ⟨trivial, ?_⟩; gi_at_call 80; refine (callsIn_wide.2 HLT.out).mono ?_; rintro e w4 ⟨rfl, hb4⟩; have HB4 := Lib.hid hb4; have x3' := (KX.out.below hb4 KX.out.lt).cell 3; have e0' := (KE2.out.below hb4 KE2.out.lt).cell 0; have e1' := (KE2.out.below hb4 KE2.out.lt).frozen 0; simp at x3' e0'; clear hb4)
      have hEh : ∀ j, j < W2.heap.size → j ≠ gE → (w4.setCell ⟨gE, 0, none⟩ (.int .i64 sl.fin)).heap[j]? = W2.heap[j]? := fun j h1 h2 => by
        rw [Below.heap_setCell w4 _ _ j (by exact h2), HB4.out.block j h1]
      have hs2 := HS2.out
      have hWW2 : Below w2.heap.size W W2 := ((Below.refl w2.heap.size W).alloc hq4 _).grown HG2.out (by simp; omega) (fun j hj => by injection hj with hj; omega)
      have hWW : Below w2.heap.size W (w4.setCell ⟨gE, 0, none⟩ (.int .i64 sl.fin)) := (hWW2.trans (HB4.out.mono (by omega))).setCell (by exact i22) _
      have kp : ∀ j, j < W.heap.size → j ≠ gE → j ≠ w3.heap.size + 1 → Kept j W (w4.setCell ⟨gE, 0, none⟩ (.int .i64 sl.fin)) := fun j h1 h2 h3 o' ho => by
        rw [hEh j (by omega) h2, HOLD.out j h1 h3]; exact ho
      refine ⟨⟨hEh _ (by omega) (by omega), hEh _ (by omega) (by omega)⟩, ⟨hWW, kp gO (by omega) i33 (by omega), kp gQ (by omega) i32 (by omega), kp _ (by omega) (by omega) (by omega)⟩, ?_, (KP2.out.below HB4.out KP2.out.lt).far (p := ⟨gE, 0, none⟩) (by exact i31) _, ?_, HQ4.out.trans hWW⟩
      · have := (KE2.out.below HB4.out KE2.out.lt).set_ 0 (.int .i64 sl.fin)
        simpa [lastFin] using this
      · intro y hy
        rcases List.mem_append.1 hy with h | h
        · exact HQ3.out y h
        · simp at h; subst h; exact HL.out
    · rw [hl] at HLT
      have HL := Lib.hid hl
      clear hl
      gi_wp2_with (refine ⟨trivial, ?_⟩; gi_at_call 80; refine (callsIn_wide.2 HLT.out).mono ?_; rintro e w4 ⟨rfl, hb4⟩; have HB4 := Lib.hid hb4; have a0' := (KA2.out.below hb4 KA2.out.lt).cell 0; have a1' := (KA2.out.below hb4 KA2.out.lt).frozen 0; have b0' := (KB2.out.below hb4 KB2.out.lt).cell 0; have b1' := (KB2.out.below hb4 KB2.out.lt).frozen 0; simp at a0' b0'; clear hb4)
      have hEh : ∀ j, j < W2.heap.size → j ≠ gA → j ≠ gB → ((w4.setCell ⟨gA, 0, none⟩ (.int .i64 (qi : Int))).setCell ⟨gB, 0, none⟩ (.int .i64 12)).heap[j]? = W2.heap[j]? := fun j h1 h2 h3 => by
        rw [Below.heap_setCell _ _ _ j (by exact h3), Below.heap_setCell w4 _ _ j (by exact h2), HB4.out.block j h1]
      have hs2 := HS2.out
      refine ⟨⟨hEh _ (by omega) (by omega) (by omega), hEh _ (by omega) (by omega) (by omega)⟩, rfl, pre, (qi, sl), rfl, HL.out, HQ3.out, ?_, ?_, ?_⟩
      · have := ((KA2.out.below HB4.out KA2.out.lt).set_ 0 (.int .i64 (qi : Int))).far (p := ⟨gB, 0, none⟩) (by exact hn3) (.int .i64 12)
        simpa using this
      · have := ((KB2.out.below HB4.out KB2.out.lt).far (p := ⟨gA, 0, none⟩) (by exact hn3.symm) (.int .i64 (qi : Int))).set_ 0 (.int .i64 12)
        simpa using this
      · exact ((HBW2.out.trans (HB4.out.mono HBW2.out.size)).setCell (p := ⟨gA, 0, none⟩) (by exact hn1) _).setCell (p := ⟨gB, 0, none⟩) (by exact hn2) _
  case done =>
    rintro xs W rfl ⟨q1, q2, q3, q4⟩ hK
    have hb2W := HB2.out.trans (q4.mono HB2.out.size)
    have kA2 := KA.out.below hb2W KA.out.lt
    have kB2 := KB.out.below hb2W KB.out.lt
    have hbW := HB1.out.trans (hb2W.mono HB1.out.size)
    have e0 := q1.cell 0
    have a0 := kA2.cell 0
    have a1 := kA2.frozen 0
    have b0 := kB2.cell 0
    have b1 := kB2.frozen 0
    simp at e0 a0 b0
    have hal := kA2.lt
    have hbl := kB2.lt
    have hnl : noLate t (edsR t) o := fun i hi => q3 (itF t (edsR t) o i) (List.mem_map.2 ⟨i, List.mem_range.2 hi, rfl⟩)
    have hlf : lastFin (upF (itF t (edsR t) o) o.length) = finAt t (edsR t) o o.length := by
      unfold lastFin finAt
      by_cases h0 : o.length = 0
      · rw [if_pos h0, h0]; rfl
      · rw [if_neg h0]
        obtain ⟨m, hm⟩ : ∃ m, o.length = m + 1 := ⟨o.length - 1, by omega⟩
        rw [hm, upF_succ]
        simp [itF]
    have HNL := Lib.hid hnl
    have HLF := Lib.hid hlf
    have HBW := Lib.hid hbW
    have KA2 := Lib.hid kA2
    have KB2 := Lib.hid kB2
    have HKD := Lib.hid hK
    obtain ⟨lf, hlfE⟩ : ∃ x, x = lastFin (upF (itF t (edsR t) o) o.length) := ⟨_, rfl⟩
    rw [← hlfE] at e0 HLF
    clear q1 q2 q3 q4 hb2W kA2 kB2 hbW hnl hlf hlfE
    gi_wp2
    have z1b : Blk ((W.setCell ⟨gA, 0, none⟩ (.int .i64 lf)).setCell ⟨gB, 0, none⟩ (.int .i64 0)) gA 3 #[.int .i64 lf] := by
      have := (KA2.out.set_ 0 (.int .i64 lf)).far (p := ⟨gB, 0, none⟩) (by exact hn3) (.int .i64 0)
      simpa using this
    have z2b : Blk ((W.setCell ⟨gA, 0, none⟩ (.int .i64 lf)).setCell ⟨gB, 0, none⟩ (.int .i64 0)) gB 35 #[.int .i64 0] := by
      have := (KB2.out.far (p := ⟨gA, 0, none⟩) (by exact hn3.symm) (.int .i64 lf)).set_ 0 (.int .i64 0)
      simpa using this
    have hbf := (HBW.out.setCell (p := ⟨gA, 0, none⟩) (by exact hn1) (.int .i64 lf)).setCell (p := ⟨gB, 0, none⟩) (by exact hn2) (.int .i64 0)
    have hK' : ((W.setCell ⟨gA, 0, none⟩ (.int .i64 lf)).setCell ⟨gB, 0, none⟩ (.int .i64 0)).heap[w3.heap.size]? = some (.deferred (some [])) := by
      rw [Below.heap_setCell _ _ _ w3.heap.size (by show w3.heap.size ≠ gB; omega), Below.heap_setCell _ _ _ w3.heap.size (by show w3.heap.size ≠ gA; omega)]; exact HKD.out
    generalize World.setCell _ _ _ = W9 at z1b z2b hbf hK' ⊢
    have y1 : Blk (W9.putObj w3.heap.size (.deferred none)) gA 3 #[.int .i64 lf] := (World.putObj_heap_other (by omega)).trans z1b
    have y2 : Blk (W9.putObj w3.heap.size (.deferred none)) gB 35 #[.int .i64 0] := (World.putObj_heap_other (by omega)).trans z2b
    have z1 := y1.cell 0
    have z2 := y2.cell 0
    simp at z1 z2
    have hbD : Below w.heap.size W9 (W9.putObj w3.heap.size (.deferred none)) := ⟨rfl, rfl, rfl, by simp [World.putObj], fun j hj => World.putObj_heap_other (by omega)⟩
    refine ⟨by simp, .inl ⟨_, _, rfl, run_takeDeferred hK', ?_⟩⟩
    refine ⟨.tuple #[.int .i64 lf, .int .i64 0], by simp [results, Try.f31, go_sem, z1, z2], ⟨.inl ⟨HNL.out, by rw [HLF.out]⟩, hbf.trans hbD⟩⟩
  case stop =>
    rintro cd pre W ⟨i, hi, rfl⟩ ⟨rfl, pre', y, q1, q2, q3, q4, q5, q6⟩ hK
    have hxs : pre' = upF (itF t (edsR t) o) i ∧ y = itF t (edsR t) o i := by
      rw [upF_succ] at q1
      have := List.append_inj' q1 rfl
      exact ⟨this.1.symm, by simpa using this.2.symm⟩
    obtain ⟨rfl, rfl⟩ := hxs
    have hfl : firstLate t (edsR t) o i := ⟨hi, q2, fun j hj => q3 (itF t (edsR t) o j) (List.mem_map.2 ⟨j, List.mem_range.2 hj, rfl⟩)⟩
    have HFL := Lib.hid hfl
    have Q4 := Lib.hid (show Blk W gA 3 #[.int .i64 (i : Int)] from q4)
    have Q5 := Lib.hid q5
    have Q6 := Lib.hid q6
    have HKD := Lib.hid hK
    clear q1 q2 q3 q4 q5 q6 hfl
    gi_wp2
    have y1 : Blk (W.putObj w3.heap.size (.deferred none)) gA 3 #[.int .i64 (i : Int)] := (World.putObj_heap_other (by omega)).trans Q4.out
    have y2 : Blk (W.putObj w3.heap.size (.deferred none)) gB 35 #[.int .i64 12] := (World.putObj_heap_other (by omega)).trans Q5.out
    have z1 := y1.cell 0
    have z2 := y2.cell 0
    simp at z1 z2
    have hbD : Below w.heap.size W (W.putObj w3.heap.size (.deferred none)) := ⟨rfl, rfl, rfl, by simp [World.putObj], fun j hj => World.putObj_heap_other (by omega)⟩
    refine ⟨by simp, .inl ⟨_, _, rfl, run_takeDeferred HKD.out, ?_⟩⟩
    refine ⟨.tuple #[.int .i64 (i : Int), .int .i64 12], by simp [results, Try.f31, go_sem, z1, z2], ⟨.inr ⟨i, HFL.out, rfl⟩, Q6.out.trans hbD⟩⟩
end Go.Proofs.Ytokdleanpkkdpaa
