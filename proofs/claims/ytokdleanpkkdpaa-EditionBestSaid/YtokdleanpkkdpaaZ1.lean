/- Contracts of Clone and DeleteFunc of seconds (three numbers each) at the closures of Latest; conditions: a row of one's own. -/
import Derived.Test.YtokdleanpkkdpaaY0
import Derived.Test.YtokdleanpkkdpaaX4
import Derived.Test.YtokdleanpkkdpaaSpecD
import Derived.Test.YtokdleanpkkdpaaQI
set_option linter.unusedSimpArgs false
set_option linter.unusedVariables false
namespace Go.Fh
open Go.RowKit
/-- 'clear' of elements of more than one cell: some cells are written, nothing else -/
theorem run_clear_agg {P : Program} (w : World) (t e : TypeId) (z : Value) (size : Nat) (ht : P.underlying t = some (.slice e)) (hv : ∀ w, (zeroValue e).run P w = .ok z w) (hz : z.cells.size = size) (h1 : ∀ v ∈ z.cells, v.oneCell' = true) (b o n c : Nat) (hn : 0 < n) (h0 : 0 < size)
    (hc : ∀ j, j < n * size → (w.cell? ⟨b, o + j, none⟩).isSome = true) (hf : ∀ j, j < n * size → w.frozen? ⟨b, o + j, none⟩ = false) :
    ∃ vs : List Value, vs.length = n * size ∧ ∀ ty, (Builtin.clear_ #[t] ty #[.slice (some ⟨b, o, none⟩) n c]).run P w = .ok (.tuple #[]) (w.setCells b o vs) := by
  have hl : (Builtin.zeroCells z.cells n).toList.length = n * size := by simp [size_zeroCells, hz]
  refine ⟨(Builtin.zeroCells z.cells n).toList, hl, fun ty => ?_⟩
  have hst := run_storeCells_cells (P := P) b o (Builtin.zeroCells z.cells n).toList 0 w (by rw [hl]; simpa using hc) (by rw [hl]; simpa using hf) (by
    intro v hv'
    simp [Builtin.zeroCells] at hv'
    obtain ⟨i, hi, rfl⟩ := hv'
    have hlt : i % z.cells.size < z.cells.size := Nat.mod_lt _ (by omega)
    rw [getElem!_pos z.cells _ hlt]
    exact h1 _ (Array.getElem_mem hlt))
  simp only [Nat.add_zero] at hst
  obtain ⟨m, rfl⟩ : ∃ m, n = m + 1 := ⟨n - 1, by omega⟩
  simp [Builtin.clear_, run_underlying ht, hv, hst]
theorem own_cut {w : World} {base : Nat} {e : TypeId} {size n m cap : Nat} {A : Option Addr} {α : Type} {enc : α → List Value} (hs : ∀ x, (enc x).length = size) {l : List α} (h : w.ownsRow base e size (.slice A n cap) n (l.flatMap enc)) (hm : m ≤ n) (hl : l.length = n) (h0 : 0 < n) : w.ownsRow base e size (.slice A m cap) m ((l.take m).flatMap enc) := by
  rcases h.2 with ⟨e0, _⟩ | ⟨g, cap', cur, e0, hb, hg, hn, hmx, hsz, ht⟩
  · injection e0 with _ e2; omega
  · injection e0 with e1 e2 e3
    subst e1 e3
    have hf : (l.take m).flatMap enc = (l.flatMap enc).take (m * size) := by
      have e4 : l.flatMap enc = (l.take m).flatMap enc ++ (l.drop m).flatMap enc := by rw [← List.flatMap_append, List.take_append_drop]
      have e5 := length_flat hs (l.take m)
      rw [e4, ← (show ((l.take m).flatMap enc).length = m * size by rw [e5, List.length_take, Nat.min_eq_left (by omega)]), List.take_left]
    refine ⟨by rw [length_flat hs, List.length_take, Nat.min_eq_left (by omega)], .inr ⟨g, cap, cur, rfl, hb, hg, by omega, hmx, hsz, ?_⟩⟩
    rw [hf, ← ht, List.take_take]
    congr 1
    exact (Nat.min_eq_left (Nat.mul_le_mul_right _ hm)).symm
/-- cells behind a row's end are none of the row's -/
theorem own_tail {w : World} {base g : Nat} {e : TypeId} {size n cap : Nat} {xs : List Value} (h : w.ownsRow base e size (.slice (some ⟨g, 0, none⟩) n cap) n xs) (o : Nat) (ho : n * size ≤ o) (vs : List Value) : (w.setCells g o vs).ownsRow base e size (.slice (some ⟨g, 0, none⟩) n cap) n xs := by
  induction vs generalizing w o with
  | nil => exact h
  | cons v vs ih =>
    show ((w.setCell ⟨g, o, none⟩ v).setCells g (o + 1) vs).ownsRow _ _ _ _ _ _
    refine ih ?_ (o + 1) (by omega)
    have := own_put h o v
    rw [List.set_eq_of_length_le (by rw [h.1]; exact ho)] at this
    exact this
end Go.Fh
namespace Go.Proofs.Ytokdleanpkkdpaa
open Go.RowKit Go.Fh Go.Ed
theorem infoRdyZ : (Try.prog.info? 69).map (fun i => (i.zero, i.size, i.bytes)) = some (some (.agg #[.int .i64 0, .int .i64 0, .int .i64 0]), 3, 24) := by kernel_rfl
theorem zero69 : ∀ w : World, (zeroValue 69).run Try.prog w = .ok (.agg #[.int .i64 0, .int .i64 0, .int .i64 0]) w := fun _ => by kernel_rfl
set_option maxHeartbeats 1000000 in
theorem cloneRdy_any (A : Option Addr) (c : Nat) (l : List (Int × Int × Int)) (w : World) (hl : l.length * 24 ≤ 140737488355328) (hA : Sl enc3 3 w w.heap.size A l) :
    Calls Try.prog 29 #[.slice A l.length c] w fun e w' => ∃ A' c', e = .returned (.slice A' l.length c') ∧ w'.ownsRow w.heap.size 69 3 (.slice A' l.length c') l.length (l.flatMap enc3) ∧ Below w.heap.size w w' := by
  have hnil := fun w n c n' c' a => Lib.run_eql_slice_nil (P := Try.prog) w 24 69 a n c n' c' Try.underlying24
  obtain ⟨i0, hi0, hz0, hz1, hz2⟩ := info_parts infoRdyZ
  rcases A with _ | ad
  · have h0 := hA.none_nil
    subst h0
    go_enter Try.func29, Try.ntmps29
    go_wp2
    go_ret
    exact ⟨none, 0, rfl, World.ownsRow_nil _ _ _ _, Below.refl _ _⟩
  · have hs2 : ∀ x : Int × Int × Int, (enc3 x).length = 3 := fun _ => rfl
    have hfl := length_flat (enc := enc3) (size := 3) hs2 l
    have hne : ∀ u ∈ l.flatMap enc3, u.oneCell' = true := by
      intro u hu; obtain ⟨x, _, hx⟩ := List.mem_flatMap.1 hu; simp [enc3] at hx; rcases hx with rfl | rfl | rfl <;> rfl
    have hcells : ∀ (W : World), Below w.heap.size w W → ∀ j u, (l.flatMap enc3)[j]? = some u → W.cell? (ad.add j) = some u := fun W hb => (hA.below hb).flat hs2
    obtain ⟨fl, hflat⟩ : ∃ fl, fl = l.flatMap enc3 := ⟨_, rfl⟩
    rw [← hflat] at hfl hne hcells
    have HF := Lib.hid hfl
    have HFL := Lib.hid hflat
    clear hfl hflat
    have hb0 := (Below.refl w.heap.size w).alloc (Nat.le_refl _) (.cells #[] 69)
    have hown := World.ownsRow_made (base := w.heap.size) (e := 69) (size := 3) w #[] 0 (Nat.le_refl _) (by decide) rfl
    go_enter Try.func29, Try.ntmps29
    go_wp2_with (at_builtin; refine wpList_append_own _ rfl (.tmp 5) (.tmp 6) 24 rfl w.heap.size 69 i0 _ 3 24 Try.underlying24 hi0 hz0 hz1 hz2 rfl (by decide) _ _ _ rfl hown ad l.length c fl rfl HF.out (hcells _ hb0) hne (by simp only [maxLen]; omega) (by omega) (by simp) ?_; intro v' w1 hown1 hg1 _)
    go_ret
    obtain ⟨A', c', rfl⟩ := own_shape hown1
    simp only [Nat.zero_add, List.nil_append] at hown1 ⊢
    refine ⟨A', c', rfl, by rw [← HFL.out]; exact hown1, hb0.grown hg1 (by simp) (fun k hk => ?_)⟩
    cases hk; exact Nat.le_refl _
/-- whether a second is that of a page and variant -/
def hitR (p v : Int) (r : Int × Int × Int) : Bool := r.1 == p && r.2.1 == v
set_option maxRecDepth 20000 in
set_option maxHeartbeats 1000000 in
theorem hitR78_any (g1 g2 : Nat) (p v : Int) (a b c : Int) (w : World) (h1 : w.cell? ⟨g1, 0, none⟩ = some (.int .i64 p)) (h2 : w.cell? ⟨g2, 0, none⟩ = some (.int .i64 v)) :
    Calls Try.prog 78 #[.agg #[.int .i64 a, .int .i64 b, .int .i64 c], .pointer (some ⟨g1, 0, none⟩), .pointer (some ⟨g2, 0, none⟩)] w fun e w' => e = .returned (.bool (hitR p v (a, b, c))) ∧ Below w.heap.size w w' := by
  have l1 := block_lt_of_cell h1
  have l2 := block_lt_of_cell h2
  simp only at l1 l2
  have HB := Lib.hid (show Below w.heap.size w (w.alloc (.cells #[.int .i64 a, .int .i64 b, .int .i64 c] 69)) from (Below.refl _ _).alloc (Nat.le_refl _) _)
  by_cases c1 : a = p
  · have t1 : (a == p) = true := by simp [c1]
    by_cases c2 : b = v
    · have t2 : (b == v) = true := by simp [c2]
      have HR := Lib.hid (show hitR p v (a, b, c) = true by simp [hitR, c1, c2])
      clear c1 c2
      go_enter Try.func78, Try.ntmps78
      go_wp2_with fail
      go_ret
      exact ⟨by rw [HR.out]; rfl, HB.out⟩
    · have t2 : (b == v) = false := by simp [c2]
      have HR := Lib.hid (show hitR p v (a, b, c) = false by simp [hitR, c2])
      clear c1 c2
      go_enter Try.func78, Try.ntmps78
      go_wp2_with fail
      go_ret
      exact ⟨by rw [HR.out]; rfl, HB.out⟩
  · have t1 : (a == p) = false := by simp [c1]
    have HR := Lib.hid (show hitR p v (a, b, c) = false by simp [hitR, c1])
    clear c1
    go_enter Try.func78, Try.ntmps78
    go_wp2_with fail
    go_ret
    exact ⟨by rw [HR.out]; rfl, HB.out⟩
set_option maxRecDepth 20000 in
set_option maxHeartbeats 1000000 in
theorem idxR78_any (g1 g2 : Nat) (A : Option Addr) (c : Nat) (l : List (Int × Int × Int)) (p v : Int) (w : World) (hl : l.length ≤ 9223372036854775807) (hA : Sl enc3 3 w w.heap.size A l) (h1 : w.cell? ⟨g1, 0, none⟩ = some (.int .i64 p)) (h2 : w.cell? ⟨g2, 0, none⟩ = some (.int .i64 v)) :
    Calls Try.prog 81 #[.slice A l.length c, .func (.func 78) #[] #[.pointer (some ⟨g1, 0, none⟩), .pointer (some ⟨g2, 0, none⟩)]] w fun e w' => e = .returned (.int .i64 (findI (hitR p v) l)) ∧ Below w.heap.size w w' := by
  have HA := Lib.hid hA
  have HF := Lib.hid (fun (r : Int × Int × Int) W (hb : Below w.heap.size w W) => hitR78_any g1 g2 p v r.1 r.2.1 r.2.2 W ((hb.cell (p := ⟨g1, 0, none⟩) (block_lt_of_cell h1)).trans h1) ((hb.cell (p := ⟨g2, 0, none⟩) (block_lt_of_cell h2)).trans h2))
  clear hA h1 h2
  go_enter Try.func81, Try.ntmps81
  go_wp2
  go_loopw [8] (fun i wr => ∃ k' : Nat, k' ≤ l.length ∧ i = .int .i64 k' ∧ Hid (∀ x ∈ l.take k', hitR p v x = false) ∧ Below w.heap.size w wr) (fun i _ => l.length - (intOf i).toNat)
  case atStart => exact ⟨0, Nat.zero_le _, rfl, by simp [Hid], Below.refl _ _⟩
  case round =>
    obtain ⟨k', hk, rfl, HN, hB⟩ := hrel
    have HB := Lib.hid hB
    by_cases hlt : k' < l.length
    · obtain ⟨b, off, rfl, hb, c0, c1, c2⟩ := (HA.out.below hB).at3 hlt
      have HC := Lib.hid (HF.out l[k'] wr hB)
      clear hB
      have he : hitR p v (l[k'].1, l[k'].2.1, l[k'].2.2) = hitR p v l[k'] := rfl
      rw [he] at HC
      clear he
      cases hw : hitR p v l[k']
      · rw [hw] at HC
        have HW := Lib.hid hw
        clear hw
        go_wp2_with (go_at_call 78; refine HC.out.mono ?_; rintro e w' ⟨rfl, hb'⟩; have HB2 := Lib.hid (HB.out.trans (hb'.mono HB.out.size)); clear hb')
        go_roundw
        case rel =>
          refine ⟨k' + 1, by omega, by go_num, ?_, HB2.out⟩
          intro x hx
          rw [List.take_succ_eq_append_getElem hlt, List.mem_append] at hx
          rcases hx with hx | hx
          · exact HN.out x hx
          · simp at hx; subst hx; exact HW.out
        case measure => simp [intOf]; omega
      · rw [hw] at HC
        have HR := Lib.hid (findI_hit (p := hitR p v) hlt HN.out hw)
        clear hw
        go_wp2_with (go_at_call 78; refine HC.out.mono ?_; rintro e w' ⟨rfl, hb'⟩; have HB2 := Lib.hid (HB.out.trans (hb'.mono HB.out.size)); clear hb')
        go_ret
        exact ⟨ret_int HR.out.symm, HB2.out⟩
    · clear hB
      go_wp2
      go_ret
      exact ⟨ret_int (findI_miss (fun x hx => HN.out x (by rw [List.take_of_length_le (by omega)]; exact hx))).symm, HB.out⟩
set_option maxRecDepth 20000 in
set_option maxHeartbeats 1000000 in
theorem hitR30_any (g1 g2 : Nat) (p v : Int) (a b c : Int) (w : World) (h1 : w.cell? ⟨g1, 0, none⟩ = some (.int .i64 p)) (h2 : w.cell? ⟨g2, 0, none⟩ = some (.int .i64 v)) :
    Calls Try.prog 30 #[.agg #[.int .i64 a, .int .i64 b, .int .i64 c], .pointer (some ⟨g1, 0, none⟩), .pointer (some ⟨g2, 0, none⟩)] w fun e w' => e = .returned (.bool (hitR p v (a, b, c))) ∧ Below w.heap.size w w' := by
  have l1 := block_lt_of_cell h1
  have l2 := block_lt_of_cell h2
  simp only at l1 l2
  have HB := Lib.hid (show Below w.heap.size w (w.alloc (.cells #[.int .i64 a, .int .i64 b, .int .i64 c] 69)) from (Below.refl _ _).alloc (Nat.le_refl _) _)
  by_cases c1 : a = p
  · have t1 : (a == p) = true := by simp [c1]
    by_cases c2 : b = v
    · have t2 : (b == v) = true := by simp [c2]
      have HR := Lib.hid (show hitR p v (a, b, c) = true by simp [hitR, c1, c2])
      clear c1 c2
      go_enter Try.func30, Try.ntmps30
      go_wp2_with fail
      go_ret
      exact ⟨by rw [HR.out]; rfl, HB.out⟩
    · have t2 : (b == v) = false := by simp [c2]
      have HR := Lib.hid (show hitR p v (a, b, c) = false by simp [hitR, c2])
      clear c1 c2
      go_enter Try.func30, Try.ntmps30
      go_wp2_with fail
      go_ret
      exact ⟨by rw [HR.out]; rfl, HB.out⟩
  · have t1 : (a == p) = false := by simp [c1]
    have HR := Lib.hid (show hitR p v (a, b, c) = false by simp [hitR, c1])
    clear c1
    go_enter Try.func30, Try.ntmps30
    go_wp2_with fail
    go_ret
    exact ⟨by rw [HR.out]; rfl, HB.out⟩
set_option maxRecDepth 20000 in
set_option maxHeartbeats 1000000 in
theorem idxR30_any (g1 g2 : Nat) (A : Option Addr) (c : Nat) (l : List (Int × Int × Int)) (p v : Int) (w : World) (hl : l.length ≤ 9223372036854775807) (hA : Sl enc3 3 w w.heap.size A l) (h1 : w.cell? ⟨g1, 0, none⟩ = some (.int .i64 p)) (h2 : w.cell? ⟨g2, 0, none⟩ = some (.int .i64 v)) :
    Calls Try.prog 81 #[.slice A l.length c, .func (.func 30) #[] #[.pointer (some ⟨g1, 0, none⟩), .pointer (some ⟨g2, 0, none⟩)]] w fun e w' => e = .returned (.int .i64 (findI (hitR p v) l)) ∧ Below w.heap.size w w' := by
  have HA := Lib.hid hA
  have HF := Lib.hid (fun (r : Int × Int × Int) W (hb : Below w.heap.size w W) => hitR30_any g1 g2 p v r.1 r.2.1 r.2.2 W ((hb.cell (p := ⟨g1, 0, none⟩) (block_lt_of_cell h1)).trans h1) ((hb.cell (p := ⟨g2, 0, none⟩) (block_lt_of_cell h2)).trans h2))
  clear hA h1 h2
  go_enter Try.func81, Try.ntmps81
  go_wp2
  go_loopw [8] (fun i wr => ∃ k' : Nat, k' ≤ l.length ∧ i = .int .i64 k' ∧ Hid (∀ x ∈ l.take k', hitR p v x = false) ∧ Below w.heap.size w wr) (fun i _ => l.length - (intOf i).toNat)
  case atStart => exact ⟨0, Nat.zero_le _, rfl, by simp [Hid], Below.refl _ _⟩
  case round =>
    obtain ⟨k', hk, rfl, HN, hB⟩ := hrel
    have HB := Lib.hid hB
    by_cases hlt : k' < l.length
    · obtain ⟨b, off, rfl, hb, c0, c1, c2⟩ := (HA.out.below hB).at3 hlt
      have HC := Lib.hid (HF.out l[k'] wr hB)
      clear hB
      have he : hitR p v (l[k'].1, l[k'].2.1, l[k'].2.2) = hitR p v l[k'] := rfl
      rw [he] at HC
      clear he
      cases hw : hitR p v l[k']
      · rw [hw] at HC
        have HW := Lib.hid hw
        clear hw
        go_wp2_with (go_at_call 30; refine HC.out.mono ?_; rintro e w' ⟨rfl, hb'⟩; have HB2 := Lib.hid (HB.out.trans (hb'.mono HB.out.size)); clear hb')
        go_roundw
        case rel =>
          refine ⟨k' + 1, by omega, by go_num, ?_, HB2.out⟩
          intro x hx
          rw [List.take_succ_eq_append_getElem hlt, List.mem_append] at hx
          rcases hx with hx | hx
          · exact HN.out x hx
          · simp at hx; subst hx; exact HW.out
        case measure => simp [intOf]; omega
      · rw [hw] at HC
        have HR := Lib.hid (findI_hit (p := hitR p v) hlt HN.out hw)
        clear hw
        go_wp2_with (go_at_call 30; refine HC.out.mono ?_; rintro e w' ⟨rfl, hb'⟩; have HB2 := Lib.hid (HB.out.trans (hb'.mono HB.out.size)); clear hb')
        go_ret
        exact ⟨ret_int HR.out.symm, HB2.out⟩
    · clear hB
      go_wp2
      go_ret
      exact ⟨ret_int (findI_miss (fun x hx => HN.out x (by rw [List.take_of_length_le (by omega)]; exact hx))).symm, HB.out⟩
theorem findI_before {α : Type} {p : α → Bool} : ∀ (l : List α) (k : Nat), findI p l = (k : Int) → ∀ x ∈ l.take k, p x = false := by
  intro l
  induction l with
  | nil => intro k _ x hx; simp at hx
  | cons y l ih =>
    intro k hk x hx
    by_cases hy : p y = true
    · have e : findI p (y :: l) = 0 := by simp [findI, hy]
      obtain rfl : k = 0 := by omega
      simp at hx
    · by_cases hl : findI p l < 0
      · exfalso
        have e : findI p (y :: l) = -1 := by simp [findI, hy, hl]
        omega
      · have e : findI p (y :: l) = findI p l + 1 := by simp [findI, hy, hl]
        obtain ⟨k', rfl⟩ : ∃ k', k = k' + 1 := ⟨k - 1, by omega⟩
        rw [List.take_succ_cons] at hx
        rcases List.mem_cons.1 hx with rfl | hx
        · simpa using hy
        · exact ih k' (by omega) x hx
theorem flat_set3 {l : List (Int × Int × Int)} {i : Nat} (h : i < l.length) (x : Int × Int × Int) : (l.set i x).flatMap enc3 = (((l.flatMap enc3).set (i * 3) (.int .i64 x.1)).set (i * 3 + 1) (.int .i64 x.2.1)).set (i * 3 + 2) (.int .i64 x.2.2) := by
  have key : ∀ (l : List (Int × Int × Int)) (i : Nat), i < l.length → (l.set i x).flatMap enc3 = (((l.flatMap enc3).set (i * 3) (.int .i64 x.1)).set (i * 3 + 1) (.int .i64 x.2.1)).set (i * 3 + 2) (.int .i64 x.2.2) := by
    intro l
    induction l with
    | nil => intro i h; simp at h
    | cons y l ih =>
      intro i h
      cases i with
      | zero => rfl
      | succ i =>
        have := ih i (by simpa using h)
        rw [List.set_cons_succ, List.flatMap_cons, this, List.flatMap_cons]
        have e : (i + 1) * 3 = i * 3 + 3 := by omega
        rw [e]
        obtain ⟨a, b, c⟩ := y
        simp [enc3]
  exact key l i h
set_option maxRecDepth 20000 in
set_option maxHeartbeats 2000000 in
theorem deleteFunc78_any (g1 g2 : Nat) (A : Option Addr) (c : Nat) (l : List (Int × Int × Int)) (p v : Int) (w : World) (base : Nat) (hl : l.length ≤ 1000) (hbase : base ≤ w.heap.size) (hown : w.ownsRow base 69 3 (.slice A l.length c) l.length (l.flatMap enc3)) (h1 : w.cell? ⟨g1, 0, none⟩ = some (.int .i64 p)) (h2 : w.cell? ⟨g2, 0, none⟩ = some (.int .i64 v))
    (hn1 : (Value.slice A l.length c).ownBlock ≠ some g1) (hn2 : (Value.slice A l.length c).ownBlock ≠ some g2) :
    Calls Try.prog 28 #[.slice A l.length c, .func (.func 78) #[] #[.pointer (some ⟨g1, 0, none⟩), .pointer (some ⟨g2, 0, none⟩)]] w fun e w' => e = .returned (.slice A (l.filter fun r => !hitR p v r).length c) ∧ w'.ownsRow base 69 3 (.slice A (l.filter fun r => !hitR p v r).length c) (l.filter fun r => !hitR p v r).length ((l.filter fun r => !hitR p v r).flatMap enc3) ∧ w.grownBy w' (Value.slice A l.length c).ownBlock := by
  have hSl : Sl enc3 3 w w.heap.size A l := Sl.of_own (fun _ => rfl) hown
  have HIX := Lib.hid (idxR78_any g1 g2 A c l p v w (by omega) hSl h1 h2)
  have hbd1 := findI_bd (hitR p v) l
  have hany := findI_any (hitR p v) l
  obtain ⟨f, hf⟩ : ∃ f, f = findI (hitR p v) l := ⟨_, rfl⟩
  rw [← hf] at HIX hbd1 hany
  by_cases hneg : f = -1
  · have ht : (f == -1) = true := by simp [hneg]
    have hfil : (l.filter fun r => !hitR p v r) = l := by
      rw [List.filter_eq_self]
      intro r hr
      have : l.any (hitR p v) = false := by rw [← hany, hneg]; rfl
      rw [List.any_eq_false] at this
      have := this r hr
      simpa using this
    have HFI := Lib.hid hfil
    have HOW := Lib.hid hown
    clear hany hfil hown hSl h1 h2 hn1 hn2
    subst hneg
    clear hf
    go_enter Try.func28, Try.ntmps28
    go_wp2_with (go_at_call 81; refine HIX.out.mono ?_; rintro e w2 ⟨rfl, hb⟩; have HB := Lib.hid hb; clear hb)
    go_ret
    rw [HFI.out]
    exact ⟨rfl, own_belowV HOW.out HB.out, gr_below HB.out _⟩
  · have ht : (f == -1) = false := by simp [hneg]
    obtain ⟨hk0, hsat⟩ := findI_sat (p := hitR p v) (l := l) (by rw [← hf]; omega)
    rw [← hf] at hk0
    simp only [← hf] at hsat
    obtain ⟨k0, hk0E⟩ : ∃ k, k = f.toNat := ⟨_, rfl⟩
    have hfk : f = (k0 : Int) := by omega
    have hbef := findI_before (p := hitR p v) l k0 (by rw [← hf]; exact hfk)
    subst hfk
    have hk0n : k0 < l.length := by simpa using hk0
    obtain ⟨n, hn⟩ : ∃ n, n = l.length := ⟨_, rfl⟩
    rw [← hn] at hl hown hn1 hn2 HIX hk0n ⊢
    obtain ⟨g, cap, hA, -⟩ := hown.form (by omega)
    injection hA with e1 e2 e3
    subst e1 e3
    clear e2
    obtain ⟨fl, hfl⟩ : ∃ fl, fl = (l.filter fun r => !hitR p v r) := ⟨_, rfl⟩
    rw [← hfl]
    have hg1 : g ≠ g1 := fun e => hn1 (by rw [e]; rfl)
    have hg2 : g ≠ g2 := fun e => hn2 (by rw [e]; rfl)
    have HCL := Lib.hid (fun (r : Int × Int × Int) W (hb : w.grownBy W (some g)) => hitR78_any g1 g2 p v r.1 r.2.1 r.2.2 W ((hb.cell_far ⟨g1, 0, none⟩ (block_lt_of_cell h1) (fun e => hg1 (by injection e with e; exact e.symm))).trans h1) ((hb.cell_far ⟨g2, 0, none⟩ (block_lt_of_cell h2) (fun e => hg2 (by injection e with e; exact e.symm))).trans h2))
    have htk : (l.take (k0 + 1)).filter (fun r => !hitR p v r) = l.take k0 := by
      rw [List.take_succ_eq_append_getElem (by omega), List.filter_append]
      have h3 : (l.take k0).filter (fun r => !hitR p v r) = l.take k0 := by
        rw [List.filter_eq_self]
        intro r hr; simp [hbef r hr]
      rw [h3]
      have h4 : hitR p v l[k0] = true := by simpa [Int.toNat_natCast] using hsat
      simp [h4]
    have HTK := Lib.hid htk
    have HOW := Lib.hid hown
    have HFL := Lib.hid hfl
    have HN := Lib.hid hn
    clear hany hown hSl h1 h2 hn1 hn2 hf hk0 hsat hk0E hneg hbd1 hbef htk hfl hn
    go_enter Try.func28, Try.ntmps28
    go_wp2_with (go_at_call 81; refine HIX.out.mono ?_; rintro e w2 ⟨rfl, hb⟩; have HB := Lib.hid hb; clear hb)
    go_loopw [5, 6] (fun vi vj wr => ∃ (i j : Nat) (m : List (Int × Int × Int)), vi = .int .i64 i ∧ vj = .int .i64 j ∧ i < j ∧ j ≤ n ∧ m.length = n ∧ Hid (m.take i = (l.take j).filter fun r => !hitR p v r) ∧ Hid (∀ x, j ≤ x → m[x]? = l[x]?) ∧
      Hid (wr.ownsRow base 69 3 (.slice (some ⟨g, 0, none⟩) n c) n (m.flatMap enc3)) ∧ Hid (w.grownBy wr (some g))) (fun _ vj _ => n - (intOf vj).toNat)
    case atStart => exact ⟨k0, k0 + 1, l, rfl, by go_num, by omega, by omega, HN.out.symm, Lib.hid HTK.out.symm, Lib.hid (fun _ _ => rfl), Lib.hid (own_belowV HOW.out HB.out), Lib.hid (gr_below HB.out _)⟩
    case round =>
      obtain ⟨i, j, m, rfl, rfl, hij, hjn, hml, HM, HX, HO, HG⟩ := hrel
      by_cases hlt : j < n
      · have hjl : j < l.length := by rw [← HN.out]; exact hlt
        have hsl : Sl enc3 3 wr wr.heap.size (some ⟨g, 0, none⟩) m := Sl.of_own (base := base) (e := 69) (c := c) (fun _ => rfl) (by rw [hml]; exact HO.out)
        obtain ⟨b, off, hA, hb, c0, c1, c2⟩ := hsl.at3 (k := j) (by omega)
        injection hA with hA
        injection hA with e1 e2
        subst e1 e2
        have hmj : m[j]'(by omega) = l[j] := by
          have := HX.out j (Nat.le_refl _)
          rw [List.getElem?_eq_getElem (by omega), List.getElem?_eq_getElem hjl] at this
          exact Option.some.inj this
        rw [hmj] at c0 c1 c2
        obtain ⟨⟨ra, rb, rc⟩, hr⟩ : ∃ r, r = l[j] := ⟨_, rfl⟩
        rw [← hr] at c0 c1 c2
        dsimp only at c0 c1 c2
        simp only [Nat.zero_add] at c0 c1 c2
        obtain ⟨d0, d1, d2⟩ : wr.cell? ⟨g, i * 3, none⟩ = some (.int .i64 (m[i]'(by omega)).1) ∧ wr.cell? ⟨g, i * 3 + 1, none⟩ = some (.int .i64 (m[i]'(by omega)).2.1) ∧ wr.cell? ⟨g, i * 3 + 2, none⟩ = some (.int .i64 (m[i]'(by omega)).2.2) := by
          obtain ⟨b', off', hA', hb', x0, x1, x2⟩ := hsl.at3 (k := i) (by omega)
          injection hA' with hA'
          injection hA' with e1 e2
          subst e1 e2
          simp only [Nat.zero_add] at x0 x1 x2
          exact ⟨x0, x1, x2⟩
        have f0 := HO.out.frozenAt (i * 3)
        have f1 := HO.out.frozenAt (i * 3 + 1)
        have f2 := HO.out.frozenAt (i * 3 + 2)
        have i0 : (0 : Int) ≤ (j : Int) := by omega
        have i1 : (j : Int) < (n : Int) := by omega
        have i2 : (0 : Int) ≤ (i : Int) := by omega
        have i3 : (i : Int) < (n : Int) := by omega
        obtain ⟨gv, hgv⟩ : ∃ x, x = wr.heap.size := ⟨_, rfl⟩
        obtain ⟨wV, hwV⟩ : ∃ W, W = wr.alloc (.cells #[.int .i64 ra, .int .i64 rb, .int .i64 rc] 69) := ⟨_, rfl⟩
        have KV := Lib.hid (show Blk wV gv 69 #[.int .i64 ra, .int .i64 rb, .int .i64 rc] by rw [hwV, hgv]; exact Blk.new _ _ _)
        have hbV : Below wr.heap.size wr wV := by rw [hwV]; exact (Below.refl _ _).alloc (Nat.le_refl _) _
        have HBV := Lib.hid hbV
        have HGV := Lib.hid (gr_trans HG.out (gr_below hbV (some g)))
        have HCV := Lib.hid (HCL.out (ra, rb, rc) wV HGV.out)
        have HWV := Lib.hid hwV
        have HGVE := Lib.hid hgv
        have HR := Lib.hid hr
        have hgl := hb
        have v0 := KV.out.cell 0
        have v1 := KV.out.cell 1
        have v2 := KV.out.cell 2
        simp at v0 v1 v2
        have D0 := Lib.hid (And.intro d0 (And.intro d1 d2))
        have F0 := Lib.hid (And.intro f0 (And.intro f1 f2))
        have hfs : (l.take (j + 1)).filter (fun r => !hitR p v r) = (l.take j).filter (fun r => !hitR p v r) ++ if hitR p v (ra, rb, rc) then [] else [(ra, rb, rc)] := by
          rw [List.take_succ_eq_append_getElem hjl, List.filter_append, ← hr]
          cases hh0 : hitR p v (ra, rb, rc) <;> simp [hh0]
        have HFS := Lib.hid hfs
        clear hsl hmj hr hwV hgv hbV d0 d1 d2 f0 f1 f2 hfs
        go_upto_region 8 with fail
        rw [← HWV.out, ← HGVE.out]
        clear c0 c1 c2
        cases hh : hitR p v (ra, rb, rc)
        · rw [hh] at HCV HFS
          have HH := Lib.hid hh
          clear hh
          go_wp2_with (go_at_call 78; refine HCV.out.mono ?_; rintro e w4 ⟨rfl, hb4⟩; have HB4 := Lib.hid hb4; obtain ⟨d0, d1, d2⟩ := D0.out; obtain ⟨f0, f1, f2⟩ := F0.out; have x0 := ((HBV.out.trans (hb4.mono HBV.out.size)).cell (p := ⟨g, i * 3, none⟩) hgl).trans d0; have x1 := ((HBV.out.trans (hb4.mono HBV.out.size)).cell (p := ⟨g, i * 3 + 1, none⟩) hgl).trans d1; have x2 := ((HBV.out.trans (hb4.mono HBV.out.size)).cell (p := ⟨g, i * 3 + 2, none⟩) hgl).trans d2; have y0 := ((HBV.out.trans (hb4.mono HBV.out.size)).frozen (p := ⟨g, i * 3, none⟩) hgl).trans f0; have y1 := ((HBV.out.trans (hb4.mono HBV.out.size)).frozen (p := ⟨g, i * 3 + 1, none⟩) hgl).trans f1; have y2 := ((HBV.out.trans (hb4.mono HBV.out.size)).frozen (p := ⟨g, i * 3 + 2, none⟩) hgl).trans f2; have u0 := (KV.out.below hb4 KV.out.lt).cell 0; have u1 := (KV.out.below hb4 KV.out.lt).cell 1; have u2 := (KV.out.below hb4 KV.out.lt).cell 2; simp at u0 u1 u2; clear d0 d1 d2 f0 f1 f2 hb4)
          go_roundw
          case rel =>
            have hO4 := own_belowV (own_belowV HO.out HBV.out) HB4.out
            refine ⟨i + 1, j + 1, m.set i (ra, rb, rc), by go_num, by go_num, by omega, by omega, by simp [hml], Lib.hid ?_, Lib.hid ?_, Lib.hid ?_, Lib.hid ?_⟩
            · rw [HFS.out, List.take_succ_eq_append_getElem (by simp; omega), List.getElem_set_self, List.take_set, List.set_eq_of_length_le (by simp; omega), HM.out]; simp
            · intro x hx
              rw [List.getElem?_set_ne (by omega)]; exact HX.out x (by omega)
            · have := own_put (own_put (own_put hO4 (i * 3) (.int .i64 ra)) (i * 3 + 1) (.int .i64 rb)) (i * 3 + 2) (.int .i64 rc)
              rw [flat_set3 (by omega)]; exact this
            · exact gr_trans (gr_trans (gr_trans (gr_trans HGV.out (gr_below HB4.out (some g))) (gr_set _ g _ _)) (gr_set _ g _ _)) (gr_set _ g _ _)
          case measure => simp [intOf]; omega
        · rw [hh] at HCV HFS
          have HH := Lib.hid hh
          clear hh
          go_wp2_with (go_at_call 78; refine HCV.out.mono ?_; rintro e w4 ⟨rfl, hb4⟩; have HB4 := Lib.hid hb4; clear hb4)
          go_roundw
          case rel =>
            refine ⟨i, j + 1, m, rfl, by go_num, by omega, by omega, hml, Lib.hid ?_, Lib.hid (fun x hx => HX.out x (by omega)), Lib.hid ?_, Lib.hid (gr_trans HGV.out (gr_below HB4.out (some g)))⟩
            · rw [HFS.out, HM.out]; simp
            · exact own_belowV (own_belowV HO.out HBV.out) HB4.out
          case measure => simp [intOf]; omega
      · obtain rfl : n = j := by omega
        have hcap : n ≤ c := by
          rcases HO.out.2 with ⟨e0, _⟩ | ⟨g', cap', cur, e0, _, _, hnc, _⟩
          · cases e0
          · injection e0 with _ _ e3; omega
        have hfin : m.take i = fl := by rw [HM.out, HFL.out, List.take_of_length_le (by rw [← HN.out]; omega)]
        have hfll : fl.length = i := by rw [← hfin]; simp; omega
        have hex : ∀ x, x < n * 3 → (wr.cell? ⟨g, x, none⟩).isSome = true := fun x hx => by
          have h1 := HO.out.cells (g := g) rfl x
          have h2 : x < (m.flatMap enc3).length := by rw [length_flat (enc := enc3) (size := 3) (fun _ => rfl)]; omega
          have h3 := h1 _ (List.getElem?_eq_getElem h2)
          rw [show (⟨g, 0, none⟩ : Addr).add x = ⟨g, x, none⟩ from by unfold Addr.add; split <;> simp_all] at h3
          rw [h3]; rfl
        obtain ⟨vs, hvl, hcl⟩ := run_clear_agg (P := Try.prog) wr 24 69 (.agg #[.int .i64 0, .int .i64 0, .int .i64 0]) 3 Try.underlying24 zero69 rfl (by intro v hv; simp [Value.cells] at hv; rcases hv with rfl | rfl | rfl <;> rfl) g (i * 3) (n - i) (c - i) (by omega) (by omega) (fun x hx => hex _ (by omega)) (fun x hx => HO.out.frozenAt _)
        have HVL := Lib.hid hvl
        have HFIN := Lib.hid hfin
        have HFLL := Lib.hid hfll
        have i2 : (0 : Int) ≤ (i : Int) := by omega
        have i3 : (i : Int) ≤ (n : Int) := by omega
        have i4 : i ≠ c := by omega
        have i5 : (i : Int) ≤ (c : Int) := by omega
        clear hex hvl hfin hfll
        go_wp2_with fail
        go_ret
        rw [HFLL.out]
        refine ⟨rfl, ?_, ?_⟩
        · have h := own_cut (enc := enc3) (fun _ => rfl) HO.out (m := i) (by omega) hml (by omega)
          rw [HFIN.out] at h
          exact own_tail h (i * 3) (Nat.le_refl _) vs
        · exact grown_setCells (w := w) rfl vs (i * 3) wr HG.out
set_option maxRecDepth 20000 in
set_option maxHeartbeats 2000000 in
theorem deleteFunc30_any (g1 g2 : Nat) (A : Option Addr) (c : Nat) (l : List (Int × Int × Int)) (p v : Int) (w : World) (base : Nat) (hl : l.length ≤ 1000) (hbase : base ≤ w.heap.size) (hown : w.ownsRow base 69 3 (.slice A l.length c) l.length (l.flatMap enc3)) (h1 : w.cell? ⟨g1, 0, none⟩ = some (.int .i64 p)) (h2 : w.cell? ⟨g2, 0, none⟩ = some (.int .i64 v))
    (hn1 : (Value.slice A l.length c).ownBlock ≠ some g1) (hn2 : (Value.slice A l.length c).ownBlock ≠ some g2) :
    Calls Try.prog 28 #[.slice A l.length c, .func (.func 30) #[] #[.pointer (some ⟨g1, 0, none⟩), .pointer (some ⟨g2, 0, none⟩)]] w fun e w' => e = .returned (.slice A (l.filter fun r => !hitR p v r).length c) ∧ w'.ownsRow base 69 3 (.slice A (l.filter fun r => !hitR p v r).length c) (l.filter fun r => !hitR p v r).length ((l.filter fun r => !hitR p v r).flatMap enc3) ∧ w.grownBy w' (Value.slice A l.length c).ownBlock := by
  have hSl : Sl enc3 3 w w.heap.size A l := Sl.of_own (fun _ => rfl) hown
  have HIX := Lib.hid (idxR30_any g1 g2 A c l p v w (by omega) hSl h1 h2)
  have hbd1 := findI_bd (hitR p v) l
  have hany := findI_any (hitR p v) l
  obtain ⟨f, hf⟩ : ∃ f, f = findI (hitR p v) l := ⟨_, rfl⟩
  rw [← hf] at HIX hbd1 hany
  by_cases hneg : f = -1
  · have ht : (f == -1) = true := by simp [hneg]
    have hfil : (l.filter fun r => !hitR p v r) = l := by
      rw [List.filter_eq_self]
      intro r hr
      have : l.any (hitR p v) = false := by rw [← hany, hneg]; rfl
      rw [List.any_eq_false] at this
      have := this r hr
      simpa using this
    have HFI := Lib.hid hfil
    have HOW := Lib.hid hown
    clear hany hfil hown hSl h1 h2 hn1 hn2
    subst hneg
    clear hf
    go_enter Try.func28, Try.ntmps28
    go_wp2_with (go_at_call 81; refine HIX.out.mono ?_; rintro e w2 ⟨rfl, hb⟩; have HB := Lib.hid hb; clear hb)
    go_ret
    rw [HFI.out]
    exact ⟨rfl, own_belowV HOW.out HB.out, gr_below HB.out _⟩
  · have ht : (f == -1) = false := by simp [hneg]
    obtain ⟨hk0, hsat⟩ := findI_sat (p := hitR p v) (l := l) (by rw [← hf]; omega)
    rw [← hf] at hk0
    simp only [← hf] at hsat
    obtain ⟨k0, hk0E⟩ : ∃ k, k = f.toNat := ⟨_, rfl⟩
    have hfk : f = (k0 : Int) := by omega
    have hbef := findI_before (p := hitR p v) l k0 (by rw [← hf]; exact hfk)
    subst hfk
    have hk0n : k0 < l.length := by simpa using hk0
    obtain ⟨n, hn⟩ : ∃ n, n = l.length := ⟨_, rfl⟩
    rw [← hn] at hl hown hn1 hn2 HIX hk0n ⊢
    obtain ⟨g, cap, hA, -⟩ := hown.form (by omega)
    injection hA with e1 e2 e3
    subst e1 e3
    clear e2
    obtain ⟨fl, hfl⟩ : ∃ fl, fl = (l.filter fun r => !hitR p v r) := ⟨_, rfl⟩
    rw [← hfl]
    have hg1 : g ≠ g1 := fun e => hn1 (by rw [e]; rfl)
    have hg2 : g ≠ g2 := fun e => hn2 (by rw [e]; rfl)
    have HCL := Lib.hid (fun (r : Int × Int × Int) W (hb : w.grownBy W (some g)) => hitR30_any g1 g2 p v r.1 r.2.1 r.2.2 W ((hb.cell_far ⟨g1, 0, none⟩ (block_lt_of_cell h1) (fun e => hg1 (by injection e with e; exact e.symm))).trans h1) ((hb.cell_far ⟨g2, 0, none⟩ (block_lt_of_cell h2) (fun e => hg2 (by injection e with e; exact e.symm))).trans h2))
    have htk : (l.take (k0 + 1)).filter (fun r => !hitR p v r) = l.take k0 := by
      rw [List.take_succ_eq_append_getElem (by omega), List.filter_append]
      have h3 : (l.take k0).filter (fun r => !hitR p v r) = l.take k0 := by
        rw [List.filter_eq_self]
        intro r hr; simp [hbef r hr]
      rw [h3]
      have h4 : hitR p v l[k0] = true := by simpa [Int.toNat_natCast] using hsat
      simp [h4]
    have HTK := Lib.hid htk
    have HOW := Lib.hid hown
    have HFL := Lib.hid hfl
    have HN := Lib.hid hn
    clear hany hown hSl h1 h2 hn1 hn2 hf hk0 hsat hk0E hneg hbd1 hbef htk hfl hn
    go_enter Try.func28, Try.ntmps28
    go_wp2_with (go_at_call 81; refine HIX.out.mono ?_; rintro e w2 ⟨rfl, hb⟩; have HB := Lib.hid hb; clear hb)
    go_loopw [5, 6] (fun vi vj wr => ∃ (i j : Nat) (m : List (Int × Int × Int)), vi = .int .i64 i ∧ vj = .int .i64 j ∧ i < j ∧ j ≤ n ∧ m.length = n ∧ Hid (m.take i = (l.take j).filter fun r => !hitR p v r) ∧ Hid (∀ x, j ≤ x → m[x]? = l[x]?) ∧
      Hid (wr.ownsRow base 69 3 (.slice (some ⟨g, 0, none⟩) n c) n (m.flatMap enc3)) ∧ Hid (w.grownBy wr (some g))) (fun _ vj _ => n - (intOf vj).toNat)
    case atStart => exact ⟨k0, k0 + 1, l, rfl, by go_num, by omega, by omega, HN.out.symm, Lib.hid HTK.out.symm, Lib.hid (fun _ _ => rfl), Lib.hid (own_belowV HOW.out HB.out), Lib.hid (gr_below HB.out _)⟩
    case round =>
      obtain ⟨i, j, m, rfl, rfl, hij, hjn, hml, HM, HX, HO, HG⟩ := hrel
      by_cases hlt : j < n
      · have hjl : j < l.length := by rw [← HN.out]; exact hlt
        have hsl : Sl enc3 3 wr wr.heap.size (some ⟨g, 0, none⟩) m := Sl.of_own (base := base) (e := 69) (c := c) (fun _ => rfl) (by rw [hml]; exact HO.out)
        obtain ⟨b, off, hA, hb, c0, c1, c2⟩ := hsl.at3 (k := j) (by omega)
        injection hA with hA
        injection hA with e1 e2
        subst e1 e2
        have hmj : m[j]'(by omega) = l[j] := by
          have := HX.out j (Nat.le_refl _)
          rw [List.getElem?_eq_getElem (by omega), List.getElem?_eq_getElem hjl] at this
          exact Option.some.inj this
        rw [hmj] at c0 c1 c2
        obtain ⟨⟨ra, rb, rc⟩, hr⟩ : ∃ r, r = l[j] := ⟨_, rfl⟩
        rw [← hr] at c0 c1 c2
        dsimp only at c0 c1 c2
        simp only [Nat.zero_add] at c0 c1 c2
        obtain ⟨d0, d1, d2⟩ : wr.cell? ⟨g, i * 3, none⟩ = some (.int .i64 (m[i]'(by omega)).1) ∧ wr.cell? ⟨g, i * 3 + 1, none⟩ = some (.int .i64 (m[i]'(by omega)).2.1) ∧ wr.cell? ⟨g, i * 3 + 2, none⟩ = some (.int .i64 (m[i]'(by omega)).2.2) := by
          obtain ⟨b', off', hA', hb', x0, x1, x2⟩ := hsl.at3 (k := i) (by omega)
          injection hA' with hA'
          injection hA' with e1 e2
          subst e1 e2
          simp only [Nat.zero_add] at x0 x1 x2
          exact ⟨x0, x1, x2⟩
        have f0 := HO.out.frozenAt (i * 3)
        have f1 := HO.out.frozenAt (i * 3 + 1)
        have f2 := HO.out.frozenAt (i * 3 + 2)
        have i0 : (0 : Int) ≤ (j : Int) := by omega
        have i1 : (j : Int) < (n : Int) := by omega
        have i2 : (0 : Int) ≤ (i : Int) := by omega
        have i3 : (i : Int) < (n : Int) := by omega
        obtain ⟨gv, hgv⟩ : ∃ x, x = wr.heap.size := ⟨_, rfl⟩
        obtain ⟨wV, hwV⟩ : ∃ W, W = wr.alloc (.cells #[.int .i64 ra, .int .i64 rb, .int .i64 rc] 69) := ⟨_, rfl⟩
        have KV := Lib.hid (show Blk wV gv 69 #[.int .i64 ra, .int .i64 rb, .int .i64 rc] by rw [hwV, hgv]; exact Blk.new _ _ _)
        have hbV : Below wr.heap.size wr wV := by rw [hwV]; exact (Below.refl _ _).alloc (Nat.le_refl _) _
        have HBV := Lib.hid hbV
        have HGV := Lib.hid (gr_trans HG.out (gr_below hbV (some g)))
        have HCV := Lib.hid (HCL.out (ra, rb, rc) wV HGV.out)
        have HWV := Lib.hid hwV
        have HGVE := Lib.hid hgv
        have HR := Lib.hid hr
        have hgl := hb
        have v0 := KV.out.cell 0
        have v1 := KV.out.cell 1
        have v2 := KV.out.cell 2
        simp at v0 v1 v2
        have D0 := Lib.hid (And.intro d0 (And.intro d1 d2))
        have F0 := Lib.hid (And.intro f0 (And.intro f1 f2))
        have hfs : (l.take (j + 1)).filter (fun r => !hitR p v r) = (l.take j).filter (fun r => !hitR p v r) ++ if hitR p v (ra, rb, rc) then [] else [(ra, rb, rc)] := by
          rw [List.take_succ_eq_append_getElem hjl, List.filter_append, ← hr]
          cases hh0 : hitR p v (ra, rb, rc) <;> simp [hh0]
        have HFS := Lib.hid hfs
        clear hsl hmj hr hwV hgv hbV d0 d1 d2 f0 f1 f2 hfs
        go_upto_region 8 with fail
        rw [← HWV.out, ← HGVE.out]
        clear c0 c1 c2
        cases hh : hitR p v (ra, rb, rc)
        · rw [hh] at HCV HFS
          have HH := Lib.hid hh
          clear hh
          go_wp2_with (go_at_call 30; refine HCV.out.mono ?_; rintro e w4 ⟨rfl, hb4⟩; have HB4 := Lib.hid hb4; obtain ⟨d0, d1, d2⟩ := D0.out; obtain ⟨f0, f1, f2⟩ := F0.out; have x0 := ((HBV.out.trans (hb4.mono HBV.out.size)).cell (p := ⟨g, i * 3, none⟩) hgl).trans d0; have x1 := ((HBV.out.trans (hb4.mono HBV.out.size)).cell (p := ⟨g, i * 3 + 1, none⟩) hgl).trans d1; have x2 := ((HBV.out.trans (hb4.mono HBV.out.size)).cell (p := ⟨g, i * 3 + 2, none⟩) hgl).trans d2; have y0 := ((HBV.out.trans (hb4.mono HBV.out.size)).frozen (p := ⟨g, i * 3, none⟩) hgl).trans f0; have y1 := ((HBV.out.trans (hb4.mono HBV.out.size)).frozen (p := ⟨g, i * 3 + 1, none⟩) hgl).trans f1; have y2 := ((HBV.out.trans (hb4.mono HBV.out.size)).frozen (p := ⟨g, i * 3 + 2, none⟩) hgl).trans f2; have u0 := (KV.out.below hb4 KV.out.lt).cell 0; have u1 := (KV.out.below hb4 KV.out.lt).cell 1; have u2 := (KV.out.below hb4 KV.out.lt).cell 2; simp at u0 u1 u2; clear d0 d1 d2 f0 f1 f2 hb4)
          go_roundw
          case rel =>
            have hO4 := own_belowV (own_belowV HO.out HBV.out) HB4.out
            refine ⟨i + 1, j + 1, m.set i (ra, rb, rc), by go_num, by go_num, by omega, by omega, by simp [hml], Lib.hid ?_, Lib.hid ?_, Lib.hid ?_, Lib.hid ?_⟩
            · rw [HFS.out, List.take_succ_eq_append_getElem (by simp; omega), List.getElem_set_self, List.take_set, List.set_eq_of_length_le (by simp; omega), HM.out]; simp
            · intro x hx
              rw [List.getElem?_set_ne (by omega)]; exact HX.out x (by omega)
            · have := own_put (own_put (own_put hO4 (i * 3) (.int .i64 ra)) (i * 3 + 1) (.int .i64 rb)) (i * 3 + 2) (.int .i64 rc)
              rw [flat_set3 (by omega)]; exact this
            · exact gr_trans (gr_trans (gr_trans (gr_trans HGV.out (gr_below HB4.out (some g))) (gr_set _ g _ _)) (gr_set _ g _ _)) (gr_set _ g _ _)
          case measure => simp [intOf]; omega
        · rw [hh] at HCV HFS
          have HH := Lib.hid hh
          clear hh
          go_wp2_with (go_at_call 30; refine HCV.out.mono ?_; rintro e w4 ⟨rfl, hb4⟩; have HB4 := Lib.hid hb4; clear hb4)
          go_roundw
          case rel =>
            refine ⟨i, j + 1, m, rfl, by go_num, by omega, by omega, hml, Lib.hid ?_, Lib.hid (fun x hx => HX.out x (by omega)), Lib.hid ?_, Lib.hid (gr_trans HGV.out (gr_below HB4.out (some g)))⟩
            · rw [HFS.out, HM.out]; simp
            · exact own_belowV (own_belowV HO.out HBV.out) HB4.out
          case measure => simp [intOf]; omega
      · obtain rfl : n = j := by omega
        have hcap : n ≤ c := by
          rcases HO.out.2 with ⟨e0, _⟩ | ⟨g', cap', cur, e0, _, _, hnc, _⟩
          · cases e0
          · injection e0 with _ _ e3; omega
        have hfin : m.take i = fl := by rw [HM.out, HFL.out, List.take_of_length_le (by rw [← HN.out]; omega)]
        have hfll : fl.length = i := by rw [← hfin]; simp; omega
        have hex : ∀ x, x < n * 3 → (wr.cell? ⟨g, x, none⟩).isSome = true := fun x hx => by
          have h1 := HO.out.cells (g := g) rfl x
          have h2 : x < (m.flatMap enc3).length := by rw [length_flat (enc := enc3) (size := 3) (fun _ => rfl)]; omega
          have h3 := h1 _ (List.getElem?_eq_getElem h2)
          rw [show (⟨g, 0, none⟩ : Addr).add x = ⟨g, x, none⟩ from by unfold Addr.add; split <;> simp_all] at h3
          rw [h3]; rfl
        obtain ⟨vs, hvl, hcl⟩ := run_clear_agg (P := Try.prog) wr 24 69 (.agg #[.int .i64 0, .int .i64 0, .int .i64 0]) 3 Try.underlying24 zero69 rfl (by intro v hv; simp [Value.cells] at hv; rcases hv with rfl | rfl | rfl <;> rfl) g (i * 3) (n - i) (c - i) (by omega) (by omega) (fun x hx => hex _ (by omega)) (fun x hx => HO.out.frozenAt _)
        have HVL := Lib.hid hvl
        have HFIN := Lib.hid hfin
        have HFLL := Lib.hid hfll
        have i2 : (0 : Int) ≤ (i : Int) := by omega
        have i3 : (i : Int) ≤ (n : Int) := by omega
        have i4 : i ≠ c := by omega
        have i5 : (i : Int) ≤ (c : Int) := by omega
        clear hex hvl hfin hfll
        go_wp2_with fail
        go_ret
        rw [HFLL.out]
        refine ⟨rfl, ?_, ?_⟩
        · have h := own_cut (enc := enc3) (fun _ => rfl) HO.out (m := i) (by omega) hml (by omega)
          rw [HFIN.out] at h
          exact own_tail h (i * 3) (Nat.le_refl _) vs
        · exact grown_setCells (w := w) rfl vs (i * 3) wr HG.out
end Go.Proofs.Ytokdleanpkkdpaa
