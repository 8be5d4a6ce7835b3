/- Contracts of puts, batches, batch; the iterator of a batch's copies; conditions: a run in memory. Printed by a program. -/
import Derived.Test.YtfejedmpplbmjaaN4
import Derived.Test.YtfejedmpplbmjaaC1L
import Derived.Shelf.Abstract
import Derived.OwnWalkIn
import Derived.TacticsInMore
import Derived.LoopNIn
import Derived.LoopIn
import Derived.RangeFuncCalls
import Derived.Sort.CutIn
set_option linter.unusedSimpArgs false
set_option linter.unusedVariables false
namespace Go.Ml
open Go.RowKit Go.Fh
/-- how many parts a hopper puts into a copy -/
def putS (fs : List (Int × Int × Bool)) (k h : Int) : Int := match fs.find? (fun f => decide (f.1 = k ∧ f.2.1 = h)) with | none => 1 | some f => if f.2.2 then 2 else 0
theorem putS_bd (fs : List (Int × Int × Bool)) (k h : Int) : 0 ≤ putS fs k h ∧ putS fs k h ≤ 2 := by
  unfold putS
  split
  · omega
  · split <;> omega
/-- the copies of a batch -/
def batS (bt n b : Nat) : List Int := upF (fun i => ((b * bt + i : Nat) : Int)) (min ((b + 1) * bt) n - b * bt)
def encsI (x : Int) : Array Go.Value := #[.int .i64 x]
/-- what a batch's round keeps -/
def KpB (lo g2 g3 : Nat) (A B : World) : Prop := Below lo A B ∧ B.heap[g2]? = A.heap[g2]? ∧ B.heap[g3]? = A.heap[g3]?
theorem KpB.refl (lo g2 g3 : Nat) (A : World) : KpB lo g2 g3 A A := ⟨Below.refl _ _, rfl, rfl⟩
theorem KpB.trans {lo g2 g3 : Nat} {A B C : World} (h : KpB lo g2 g3 A B) (k : KpB lo g2 g3 B C) : KpB lo g2 g3 A C := ⟨h.1.trans k.1, k.2.1.trans h.2.1, k.2.2.trans h.2.2⟩
theorem KpB.drew {lo g2 g3 : Nat} {A B : World} (h : KpB lo g2 g3 A B) : KpB lo g2 g3 A B.drew := ⟨h.1.drew, h.2.1, h.2.2⟩
end Go.Ml
namespace Go.Proofs.Ytfejedmpplbmjaa
open Go.RowKit Go.Fh Go.Ml
set_option maxRecDepth 20000 in
set_option maxHeartbeats 2000000 in
theorem puts_any (d : LnD) (x : LA) (zs : List Int) (zA : Option Addr) (zc : Nat) (fs : List (Int × Int × Bool)) (g : Nat) (w : World) (h : RunM d x zs zA zc fs g w) (k q : Int) (v : Int) (hv : v = putS fs k q) :
    Calls Try.prog 98 #[.pointer (some ⟨g, 0, none⟩), .int .i64 k, .int .i64 q] w fun e w' => e = .returned (.int .i64 v) ∧ Hid (Below w.heap.size w w') := by
  obtain ⟨hg, gM, m, hm, hW⟩ := h
  obtain ⟨-, -, ⟨-, -, -, -, -, r5⟩, hmi⟩ := hW w (Below.refl _ _)
  have HM := Lib.hid hmi
  have hq := hm k q
  have HBW := Lib.hid (Below.refl w.heap.size w)
  unfold putS at hv
  cases hf : fs.find? (fun f => decide (f.1 = k ∧ f.2.1 = q)) with
  | none =>
    rw [hf] at hq hv
    dsimp only at hv
    subst hv
    have HQ := Lib.hid hq
    clear hm hW hmi hq hf
    go_enter Try.func98, Try.ntmps98
    go_wp2_with (at_lookup; refine wpList_lookup rfl (.tmp 13) (.tmp 16) 189 true rfl Try.underlying189 keyLaw192 zero47 HM.out ⟨[k, q], rfl⟩ rfl rfl ?_; simp only [if_true, HQ.out, Option.map_none, Option.getD_none, Option.isSome_none, fV])
    go_ret
    exact ⟨rfl, Lib.hid (by repeat (with_reducible first | exact Below.refl _ _ | refine balR ?_ _ | refine Below.drew ?_ | refine bset ?_ (by simp) _ _))⟩
  | some f =>
    obtain ⟨f1, f2, f3⟩ := f
    rw [hf] at hq hv
    dsimp only at hv
    have HQ := Lib.hid hq
    cases f3
    all_goals
      simp at hv
      subst hv
      clear hm hW hmi hq hf
      go_enter Try.func98, Try.ntmps98
      go_wp2_with (at_lookup; refine wpList_lookup rfl (.tmp 13) (.tmp 16) 189 true rfl Try.underlying189 keyLaw192 zero47 HM.out ⟨[k, q], rfl⟩ rfl rfl ?_; simp only [if_true, HQ.out, Option.map_some, Option.getD_some, Option.isSome_some, fV])
      go_ret
      exact ⟨rfl, Lib.hid (by repeat (with_reducible first | exact Below.refl _ _ | refine balR ?_ _ | refine Below.drew ?_ | refine bset ?_ (by simp) _ _))⟩
set_option maxRecDepth 20000 in
set_option maxHeartbeats 4000000 in
theorem batches_any (d : LnD) (x : LA) (zs : List Int) (zA : Option Addr) (zc : Nat) (fs : List (Int × Int × Bool)) (g : Nat) (w : World) (h : RunM d x zs zA zc fs g w) (bt : Nat) (hbt : d.batch = (bt : Int)) (hb : 1 ≤ bt ∧ bt ≤ 1000) (hz : zs.length ≤ 1000000) (nb : Nat) (hnb : nb = (zs.length + bt - 1) / bt) :
    Calls Try.prog 48 #[.pointer (some ⟨g, 0, none⟩)] w fun e w' => e = .returned (.int .i64 (nb : Int)) ∧ Hid (Below w.heap.size w w') := by
  obtain ⟨hg, gM, m, hm, hW⟩ := h
  have HS := Lib.hid (show ∀ W, Below w.heap.size w W → W.cell? ⟨g, 2, none⟩ = some (.int .i64 (bt : Int)) ∧ W.cell? ⟨g, 4, none⟩ = some (.slice zA zs.length zc) from fun W hb => by
    obtain ⟨-, -, ⟨-, -, r2, -, r4, -⟩, -⟩ := hW W hb
    rw [hbt] at r2
    exact ⟨r2, r4⟩)
  have p0 : IntKind.i64.wrap ((zs.length : Int) + (bt : Int)) = (zs.length : Int) + (bt : Int) := by rw [IntKind.wrap_i64]; omega
  have p1 : IntKind.i64.wrap ((zs.length : Int) + (bt : Int) - 1) = (zs.length : Int) + (bt : Int) - 1 := by rw [IntKind.wrap_i64]; omega
  have hne : (bt : Int) ≠ 0 := by omega
  have hb0 : ¬ bt = 0 := by omega
  have hq : ((zs.length : Int) + (bt : Int) - 1) / (bt : Int) = (nb : Int) := by
    rw [hnb, show ((zs.length : Int) + (bt : Int) - 1) = ((zs.length + bt - 1 : Nat) : Int) by omega]
    exact (Int.natCast_ediv _ _).symm
  have htd : ((zs.length : Int) + (bt : Int) - 1).tdiv (bt : Int) = (nb : Int) := by rw [Int.tdiv_eq_ediv_of_nonneg (by omega)]; exact hq
  have hnbb : nb ≤ 2000000 := by rw [hnb]; exact Nat.le_trans (Nat.div_le_self _ _) (by omega)
  have p2 : IntKind.i64.wrap (nb : Int) = (nb : Int) := by rw [IntKind.wrap_i64]; omega
  clear hm hW hnb
  go_enter Try.func48, Try.ntmps48
  go_upto_region 1 with fail
  refine wp_region_noPanic ?_
  refine wp_region_held_drew (S := (fun W => W.cell? ⟨g, 2, none⟩ = some (.int .i64 (bt : Int)) ∧ W.cell? ⟨g, 4, none⟩ = some (.slice zA zs.length zc))) (by kernel_rfl) ?_ (fun hHeld => ?_)
  · (try dsimp only); (exact HS.out _ (Below.refl _ _).drew)
  refine wpAnyH_takeD (i := 0) (v := ?_) (some 3) rfl rfl (by kernel_rfl) (by kernel_rfl) (by kernel_rfl) (fun _ _ _ h => h) (Or.inl ⟨by rfl, ?_⟩) (by assumption) ?_
  rotate_left
  · intro w hSw; (try dsimp only at hSw); go_simp; (try with_reducible rfl)
  try simp only [Act.put, List.setIfInBounds_toArray, List.set_cons_zero, List.set_cons_succ]
  refine wpAnyH_takeD (i := 1) (v := ?_) (some 4) rfl rfl (by kernel_rfl) (by kernel_rfl) (by kernel_rfl) (fun _ _ _ h => h) (Or.inl ⟨by rfl, ?_⟩) (by assumption) ?_
  rotate_left
  · intro w hSw; (try dsimp only at hSw); go_simp; (try with_reducible rfl)
  try simp only [Act.put, List.setIfInBounds_toArray, List.set_cons_zero, List.set_cons_succ]
  refine wpAnyH_takeD (i := 2) (v := ?_) (some 5) rfl rfl (by kernel_rfl) (by kernel_rfl) (by kernel_rfl) (fun _ _ _ h => h) (Or.inl ⟨by rfl, ?_⟩) (by assumption) ?_
  rotate_left
  · intro w hSw; (try dsimp only at hSw); go_simp; (try with_reducible rfl)
  try simp only [Act.put, List.setIfInBounds_toArray, List.set_cons_zero, List.set_cons_succ]
  refine wpAnyH_takeD (i := 3) (v := ?_) (some 6) rfl rfl (by kernel_rfl) (by kernel_rfl) (by kernel_rfl) (fun _ _ _ h => h) (Or.inl ⟨by rfl, ?_⟩) (by assumption) ?_
  rotate_left
  · intro w hSw; (try dsimp only at hSw); go_simp; (try with_reducible rfl)
  try simp only [Act.put, List.setIfInBounds_toArray, List.set_cons_zero, List.set_cons_succ]
  refine wpAnyH_takeD (i := 4) (v := ?_) (some 7) rfl rfl (by kernel_rfl) (by kernel_rfl) (by kernel_rfl) (fun _ _ _ h => h) (Or.inl ⟨by rfl, ?_⟩) (by assumption) ?_
  rotate_left
  · intro w hSw; (try dsimp only at hSw); go_simp; (try with_reducible rfl)
  try simp only [Act.put, List.setIfInBounds_toArray, List.set_cons_zero, List.set_cons_succ]
  refine wpAnyH_takeD (i := 5) (v := ?_) (some 8) rfl rfl (by kernel_rfl) (by kernel_rfl) (by kernel_rfl) (fun _ _ _ h => h) (Or.inl ⟨by rfl, ?_⟩) (by assumption) ?_
  rotate_left
  · intro w hSw; (try dsimp only at hSw); go_simp; (try with_reducible rfl)
  try simp only [Act.put, List.setIfInBounds_toArray, List.set_cons_zero, List.set_cons_succ]
  refine wpAnyH_takeD (i := 6) (v := ?_) (some 9) rfl rfl (by kernel_rfl) (by kernel_rfl) (by kernel_rfl) (fun _ _ _ h => h) (Or.inl ⟨by rfl, ?_⟩) (by assumption) ?_
  rotate_left
  · intro w hSw; (try dsimp only at hSw); go_simp; (try with_reducible rfl)
  try simp only [Act.put, List.setIfInBounds_toArray, List.set_cons_zero, List.set_cons_succ]
  refine wpAnyH_takeD (i := 7) (v := ?_) (some 10) rfl rfl (by kernel_rfl) (by kernel_rfl) (by kernel_rfl) (fun _ _ _ h => h) (Or.inl ⟨by rfl, ?_⟩) (by assumption) ?_
  rotate_left
  · intro w hSw; (try dsimp only at hSw); go_simp; (try with_reducible rfl)
  try simp only [Act.put, List.setIfInBounds_toArray, List.set_cons_zero, List.set_cons_succ]
  refine wpAnyH_takeD (i := 8) (v := ?_) (some 11) rfl rfl (by kernel_rfl) (by kernel_rfl) (by kernel_rfl) (fun _ _ _ h => h) (Or.inl ⟨by rfl, ?_⟩) (by assumption) ?_
  rotate_left
  · intro w hSw; (try dsimp only at hSw); go_simp; (try with_reducible rfl)
  try simp only [Act.put, List.setIfInBounds_toArray, List.set_cons_zero, List.set_cons_succ]
  refine wpAnyH_takeD (i := 9) (v := ?_) (some 12) rfl rfl (by kernel_rfl) (by kernel_rfl) (by kernel_rfl) (fun _ _ _ h => h) (Or.inl ⟨by rfl, ?_⟩) (by assumption) ?_
  rotate_left
  · intro w hSw; (try dsimp only at hSw); go_simp; (try with_reducible rfl)
  try simp only [Act.put, List.setIfInBounds_toArray, List.set_cons_zero, List.set_cons_succ]
  refine wpAnyH_takeD (i := 10) (v := ?_) (some 13) rfl rfl (by kernel_rfl) (by kernel_rfl) (by kernel_rfl) (fun _ _ _ h => h) (Or.inl ⟨by rfl, ?_⟩) (by assumption) ?_
  rotate_left
  · intro w hSw; (try dsimp only at hSw); go_simp; (try with_reducible rfl)
  try simp only [Act.put, List.setIfInBounds_toArray, List.set_cons_zero, List.set_cons_succ]
  refine wpAnyH_takeD (i := 11) (v := ?_) (some 14) rfl rfl (by kernel_rfl) (by kernel_rfl) (by kernel_rfl) (fun _ _ _ h => h) (Or.inl ⟨by rfl, ?_⟩) (by assumption) ?_
  rotate_left
  · intro w hSw; (try dsimp only at hSw); go_simp; (try with_reducible rfl)
  try simp only [Act.put, List.setIfInBounds_toArray, List.set_cons_zero, List.set_cons_succ]
  refine wpAnyH_takeD (i := 12) (v := ?_) (some 15) rfl rfl (by kernel_rfl) (by kernel_rfl) (by kernel_rfl) (fun _ _ _ h => h) (Or.inl ⟨by rfl, ?_⟩) (by assumption) ?_
  rotate_left
  · intro w hSw; (try dsimp only at hSw); go_simp; (try with_reducible rfl)
  try simp only [Act.put, List.setIfInBounds_toArray, List.set_cons_zero, List.set_cons_succ]
  refine wpAnyH_takeD (i := 13) (v := ?_) (some 16) rfl rfl (by kernel_rfl) (by kernel_rfl) (by kernel_rfl) (fun _ _ _ h => h) (Or.inl ⟨by rfl, ?_⟩) (by assumption) ?_
  rotate_left
  · intro w hSw; (try dsimp only at hSw); go_simp; (try with_reducible rfl)
  try simp only [Act.put, List.setIfInBounds_toArray, List.set_cons_zero, List.set_cons_succ]
  refine wpAnyH_takeD (i := 14) (v := ?_) (some 17) rfl rfl (by kernel_rfl) (by kernel_rfl) (by kernel_rfl) (fun _ _ _ h => h) (Or.inl ⟨by rfl, ?_⟩) (by assumption) ?_
  rotate_left
  · intro w hSw; (try dsimp only at hSw); go_simp; (try with_reducible rfl)
  try simp only [Act.put, List.setIfInBounds_toArray, List.set_cons_zero, List.set_cons_succ]
  refine wpAnyH_takeD (i := 15) (v := ?_) (some 18) rfl rfl (by kernel_rfl) (by kernel_rfl) (by kernel_rfl) (fun _ _ _ h => h) (Or.inl ⟨by rfl, ?_⟩) (by assumption) ?_
  rotate_left
  · intro w hSw; (try dsimp only at hSw); go_simp; (try with_reducible rfl)
  try simp only [Act.put, List.setIfInBounds_toArray, List.set_cons_zero, List.set_cons_succ]
  refine wpAnyH_takeD (i := 16) (v := ?_) (some 19) rfl rfl (by kernel_rfl) (by kernel_rfl) (by kernel_rfl) (fun _ _ _ h => h) (Or.inl ⟨by rfl, ?_⟩) (by assumption) ?_
  rotate_left
  · intro w hSw; (try dsimp only at hSw); go_simp; (try with_reducible rfl)
  try simp only [Act.put, List.setIfInBounds_toArray, List.set_cons_zero, List.set_cons_succ]
  refine wpAnyH_takeD (i := 17) (v := .int .i64 (nb : Int)) (some 20) rfl rfl (by kernel_rfl) (by kernel_rfl) (by kernel_rfl) (fun _ _ _ h => h) (Or.inl ⟨by rfl, ?_⟩) (by assumption) ?_
  · intro w hSw; (try dsimp only at hSw); (go_simp; (try simp [htd, hq, p2, hne, hb0])); (try with_reducible rfl)
  try simp only [Act.put, List.setIfInBounds_toArray, List.set_cons_zero, List.set_cons_succ]
  refine wpAnyH_takeD (i := 18) (v := ?_) (some 2) rfl rfl (by kernel_rfl) (by kernel_rfl) (by kernel_rfl) (fun _ _ _ h => h) (Or.inl ⟨by rfl, ?_⟩) (by assumption) ?_
  rotate_left
  · intro w hSw; (try dsimp only at hSw); go_simp; (try with_reducible rfl)
  try simp only [Act.put, List.setIfInBounds_toArray, List.set_cons_zero, List.set_cons_succ]
  refine wpAnyH_done (by kernel_rfl) ?_ _
  refine NoPanic.normal ?_
  go_wp2_with fail
  go_ret
  exact ⟨rfl, Lib.hid (Below.refl _ _).drew⟩
theorem batch99_any (a : Option Addr) (b : Int) (w : World) :
    Calls Try.prog 99 #[.pointer a, .int .i64 b] w fun e w' => e = .returned (.func (.func 129) #[] #[.pointer (some ⟨w.heap.size + 1, 0, none⟩), .pointer (some ⟨w.heap.size, 0, none⟩)]) ∧ w' = (w.alloc (.cells #[.pointer a] 107)).alloc (.cells #[.int .i64 b] 3) := by
  go_enter Try.func99, Try.ntmps99
  go_wp2_with fail
  go_ret
  exact ⟨rfl, rfl⟩
end Go.Proofs.Ytfejedmpplbmjaa
namespace Go.Proofs.Ytfejedmpplbmjaa
open Go.RowKit Go.Fh Go.Ml Go.Shelf
attribute [local go_sem] Oper.semAt_some
set_option maxRecDepth 100000 in
set_option maxHeartbeats 4000000 in
theorem batch_in (n : Nat) (hn : 1 ≤ n) (d : LnD) (x : LA) (zs : List Int) (zA : Option Addr) (zc : Nat) (fs : List (Int × Int × Bool)) (g g2 g3 : Nat) (w w0 : World) (h : RunM d x zs zA zc fs g w) (bt b : Nat) (hbt : d.batch = (bt : Int)) (hb1 : 1 ≤ bt ∧ bt ≤ 1000) (hz : zs.length ≤ 1000000) (hbb : b ≤ 1000000)
    (hw0 : Below w.heap.size w w0) (k2 : Blk w0 g2 107 #[.pointer (some ⟨g, 0, none⟩)]) (k3 : Blk w0 g3 3 #[.int .i64 (b : Int)]) :
    SeqL Fence.wide n Try.prog 129 #[.pointer (some ⟨g3, 0, none⟩), .pointer (some ⟨g2, 0, none⟩)] encsI (fun _ A B => KpB w.heap.size g2 g3 A B) (fun k => k ∈ batS bt zs.length b) (fun ys => ys = batS bt zs.length b) (fun _ => True) (batS bt zs.length b).length w0 := by
  intro l J Jx W hb hJ hJx hY h0
  obtain ⟨hg, gM, m, hm, hW⟩ := h
  have HJ := Lib.hid hJ
  have HY := Lib.hid hY
  have H0 := Lib.hid h0
  have hw0s := hw0.size
  have HS := Lib.hid (show ∀ X, KpB w.heap.size g2 g3 w0 X → (X.cell? ⟨g3, 0, none⟩ = some (.int .i64 (b : Int)) ∧ X.cell? ⟨g2, 0, none⟩ = some (.pointer (some ⟨g, 0, none⟩))) ∧ X.cell? ⟨g, 2, none⟩ = some (.int .i64 (bt : Int)) ∧ X.cell? ⟨g, 4, none⟩ = some (.slice zA zs.length zc) from fun X hX => by
    obtain ⟨-, -, ⟨-, -, r2, -, r4, -⟩, -⟩ := hW X (hw0.trans hX.1)
    rw [hbt] at r2
    have e2 := (show Blk X g2 107 _ from hX.2.1.trans k2).cell 0
    have e3 := (show Blk X g3 3 _ from hX.2.2.trans k3).cell 0
    simp at e2 e3
    exact ⟨⟨e3, e2⟩, r2, r4⟩)
  have HKW := Lib.hid (show KpB w.heap.size g2 g3 w0 W from ⟨hb.mono hw0s, hb.block _ k2.lt, hb.block _ k3.lt⟩)
  obtain ⟨lo, hlo⟩ : ∃ v, v = b * bt := ⟨_, rfl⟩
  obtain ⟨hi, hhi⟩ : ∃ v, v = (b + 1) * bt := ⟨_, rfl⟩
  have hlh : hi = lo + bt := by rw [hlo, hhi, Nat.add_mul, Nat.one_mul]
  have hlob : lo ≤ 1000000000 := by
    rw [hlo]; exact Nat.le_trans (Nat.mul_le_mul hbb hb1.2) (by omega)
  obtain ⟨cnt, hcnt⟩ : ∃ v, v = min hi zs.length - lo := ⟨_, rfl⟩
  have hbat : batS bt zs.length b = upF (fun i => ((lo + i : Nat) : Int)) cnt := by unfold batS; rw [hcnt, hlo, hhi]
  have HBAT := Lib.hid hbat
  have m0 : (b : Int) * (bt : Int) = (lo : Int) := by rw [hlo]; simp
  have m1 : ((b : Int) + 1) * (bt : Int) = (hi : Int) := by rw [hhi]; simp
  have p0 : IntKind.i64.wrap (lo : Int) = (lo : Int) := by rw [IntKind.wrap_i64]; omega
  have p1 : IntKind.i64.wrap ((b : Int) + 1) = (b : Int) + 1 := by rw [IntKind.wrap_i64]; omega
  have p2 : IntKind.i64.wrap (hi : Int) = (hi : Int) := by rw [IntKind.wrap_i64]; omega
  have HLH := Lib.hid hlh
  have HCNT := Lib.hid hcnt
  have hcb : cnt ≤ 1000000 := by omega
  have hhb : hi ≤ 1000001000 := by omega
  clear hJ hJx hY h0 hm hW k2 k3 hb hw0 hlo hhi hbat hlh hcnt
  refine callsIn_of_wp Try.func129 rfl trivial ?_ rfl
  simp only [Try.ntmps129, List.size_toArray, List.length_cons, List.length_nil, Nat.reduceAdd, Nat.reduceSub, Array.replicate_succ, Array.replicate_zero, List.push_toArray, List.append_toArray, List.nil_append, List.cons_append]
  --@1
  gi_upto_region 0 with fail
  refine wpIn_wide.2 ?_
  refine wp_region_noPanic ?_
  refine wp_region_held_drew (S := (fun W => (W.cell? ⟨g3, 0, none⟩ = some (.int .i64 (b : Int)) ∧ W.cell? ⟨g2, 0, none⟩ = some (.pointer (some ⟨g, 0, none⟩))) ∧ W.cell? ⟨g, 2, none⟩ = some (.int .i64 (bt : Int)) ∧ W.cell? ⟨g, 4, none⟩ = some (.slice zA zs.length zc))) (by kernel_rfl) ?_ (fun hHeld => ?_)
  · (try dsimp only); (exact HS.out _ HKW.out.drew)
  refine wpAnyH_takeD (i := 0) (v := ?_) (some 5) rfl rfl (by kernel_rfl) (by kernel_rfl) (by kernel_rfl) (fun _ _ _ h => h) (Or.inl ⟨by rfl, ?_⟩) (by assumption) ?_
  rotate_left
  · intro w hSw; (try dsimp only at hSw); go_simp; (try with_reducible rfl)
  try simp only [Act.put, List.setIfInBounds_toArray, List.set_cons_zero, List.set_cons_succ]
  refine wpAnyH_takeD (i := 1) (v := ?_) (some 6) rfl rfl (by kernel_rfl) (by kernel_rfl) (by kernel_rfl) (fun _ _ _ h => h) (Or.inl ⟨by rfl, ?_⟩) (by assumption) ?_
  rotate_left
  · intro w hSw; (try dsimp only at hSw); go_simp; (try with_reducible rfl)
  try simp only [Act.put, List.setIfInBounds_toArray, List.set_cons_zero, List.set_cons_succ]
  refine wpAnyH_takeD (i := 2) (v := ?_) (some 7) rfl rfl (by kernel_rfl) (by kernel_rfl) (by kernel_rfl) (fun _ _ _ h => h) (Or.inl ⟨by rfl, ?_⟩) (by assumption) ?_
  rotate_left
  · intro w hSw; (try dsimp only at hSw); go_simp; (try with_reducible rfl)
  try simp only [Act.put, List.setIfInBounds_toArray, List.set_cons_zero, List.set_cons_succ]
  refine wpAnyH_takeD (i := 3) (v := ?_) (some 8) rfl rfl (by kernel_rfl) (by kernel_rfl) (by kernel_rfl) (fun _ _ _ h => h) (Or.inl ⟨by rfl, ?_⟩) (by assumption) ?_
  rotate_left
  · intro w hSw; (try dsimp only at hSw); go_simp; (try with_reducible rfl)
  try simp only [Act.put, List.setIfInBounds_toArray, List.set_cons_zero, List.set_cons_succ]
  refine wpAnyH_takeD (i := 4) (v := ?_) (some 9) rfl rfl (by kernel_rfl) (by kernel_rfl) (by kernel_rfl) (fun _ _ _ h => h) (Or.inl ⟨by rfl, ?_⟩) (by assumption) ?_
  rotate_left
  · intro w hSw; (try dsimp only at hSw); go_simp; (try with_reducible rfl)
  try simp only [Act.put, List.setIfInBounds_toArray, List.set_cons_zero, List.set_cons_succ]
  refine wpAnyH_takeD (i := 5) (v := ?_) (some 10) rfl rfl (by kernel_rfl) (by kernel_rfl) (by kernel_rfl) (fun _ _ _ h => h) (Or.inl ⟨by rfl, ?_⟩) (by assumption) ?_
  rotate_left
  · intro w hSw; (try dsimp only at hSw); go_simp; (try with_reducible rfl)
  try simp only [Act.put, List.setIfInBounds_toArray, List.set_cons_zero, List.set_cons_succ]
  refine wpAnyH_takeD (i := 6) (v := .int .i64 (lo : Int)) (some 11) rfl rfl (by kernel_rfl) (by kernel_rfl) (by kernel_rfl) (fun _ _ _ h => h) (Or.inl ⟨by rfl, ?_⟩) (by assumption) ?_
  · intro w hSw; (try dsimp only at hSw); (go_simp; (try simp [m0, p0])); (try with_reducible rfl)
  try simp only [Act.put, List.setIfInBounds_toArray, List.set_cons_zero, List.set_cons_succ]
  refine wpAnyH_takeD (i := 7) (v := ?_) (some 4) rfl rfl (by kernel_rfl) (by kernel_rfl) (by kernel_rfl) (fun _ _ _ h => h) (Or.inl ⟨by rfl, ?_⟩) (by assumption) ?_
  rotate_left
  · intro w hSw; (try dsimp only at hSw); go_simp; (try with_reducible rfl)
  try simp only [Act.put, List.setIfInBounds_toArray, List.set_cons_zero, List.set_cons_succ]
  refine wpAnyH_done (by kernel_rfl) ?_ _
  refine NoPanic.normal ?_
  --@2
  gi_wp2
  gi_loopw [4] (fun u wr => ∃ q kk : Nat, q ≤ cnt ∧ Hid (kk = lo + q) ∧ u = .int .i64 (kk : Int) ∧ kk ≤ 1001000000 ∧ Hid (J (upF (fun i => ((lo + i : Nat) : Int)) q) wr) ∧ Hid (KpB w.heap.size g2 g3 w0 wr) ∧ W.heap.size ≤ wr.heap.size) (fun i _ => lo + cnt + 1 - (intOf i).toNat)
  case atStart => exact ⟨0, lo, Nat.zero_le _, Lib.hid rfl, rfl, by omega, Lib.hid (HJ.out _ _ _ H0.out (gr_below (Below.refl _ _).drew (some W.heap.size))), Lib.hid HKW.out.drew, Nat.le_refl _⟩
  case round =>
    obtain ⟨q, kk, hq, HKK, rfl, hkb, HJs, HKR, hsz⟩ := hrel
    have HJD := Lib.hid (HJ.out _ _ _ HJs.out (gr_below (Below.refl wr.heap.size wr).drew (some W.heap.size)))
    by_cases hlt : q < cnt
    · have t1 : decide ((kk : Int) < min (hi : Int) (zs.length : Int)) = true := by have := HKK.out; have := HLH.out; have := HCNT.out; simp; omega
      --@3
      gi_upto_region 1 with fail
      refine wpIn_wide.2 ?_
      refine wp_region_noPanic ?_
      refine wp_region_held_drew (S := (fun W => (W.cell? ⟨g3, 0, none⟩ = some (.int .i64 (b : Int)) ∧ W.cell? ⟨g2, 0, none⟩ = some (.pointer (some ⟨g, 0, none⟩))) ∧ W.cell? ⟨g, 2, none⟩ = some (.int .i64 (bt : Int)) ∧ W.cell? ⟨g, 4, none⟩ = some (.slice zA zs.length zc))) (by kernel_rfl) ?_ (fun hHeld => ?_)
      · (try dsimp only); (exact HS.out _ HKR.out.drew)
      refine wpAnyH_takeD (i := 0) (v := ?_) (some 12) rfl rfl (by kernel_rfl) (by kernel_rfl) (by kernel_rfl) (fun _ _ _ h => h) (Or.inl ⟨by rfl, ?_⟩) (by assumption) ?_
      rotate_left
      · intro w hSw; (try dsimp only at hSw); go_simp; (try with_reducible rfl)
      try simp only [Act.put, List.setIfInBounds_toArray, List.set_cons_zero, List.set_cons_succ]
      refine wpAnyH_takeD (i := 1) (v := ?_) (some 13) rfl rfl (by kernel_rfl) (by kernel_rfl) (by kernel_rfl) (fun _ _ _ h => h) (Or.inl ⟨by rfl, ?_⟩) (by assumption) ?_
      rotate_left
      · intro w hSw; (try dsimp only at hSw); go_simp; (try with_reducible rfl)
      try simp only [Act.put, List.setIfInBounds_toArray, List.set_cons_zero, List.set_cons_succ]
      refine wpAnyH_takeD (i := 2) (v := ?_) (some 14) rfl rfl (by kernel_rfl) (by kernel_rfl) (by kernel_rfl) (fun _ _ _ h => h) (Or.inl ⟨by rfl, ?_⟩) (by assumption) ?_
      rotate_left
      · intro w hSw; (try dsimp only at hSw); go_simp; (try with_reducible rfl)
      try simp only [Act.put, List.setIfInBounds_toArray, List.set_cons_zero, List.set_cons_succ]
      refine wpAnyH_takeD (i := 3) (v := ?_) (some 15) rfl rfl (by kernel_rfl) (by kernel_rfl) (by kernel_rfl) (fun _ _ _ h => h) (Or.inl ⟨by rfl, ?_⟩) (by assumption) ?_
      rotate_left
      · intro w hSw; (try dsimp only at hSw); go_simp; (try with_reducible rfl)
      try simp only [Act.put, List.setIfInBounds_toArray, List.set_cons_zero, List.set_cons_succ]
      refine wpAnyH_takeD (i := 4) (v := ?_) (some 16) rfl rfl (by kernel_rfl) (by kernel_rfl) (by kernel_rfl) (fun _ _ _ h => h) (Or.inl ⟨by rfl, ?_⟩) (by assumption) ?_
      rotate_left
      · intro w hSw; (try dsimp only at hSw); go_simp; (try with_reducible rfl)
      try simp only [Act.put, List.setIfInBounds_toArray, List.set_cons_zero, List.set_cons_succ]
      refine wpAnyH_takeD (i := 5) (v := ?_) (some 17) rfl rfl (by kernel_rfl) (by kernel_rfl) (by kernel_rfl) (fun _ _ _ h => h) (Or.inl ⟨by rfl, ?_⟩) (by assumption) ?_
      rotate_left
      · intro w hSw; (try dsimp only at hSw); go_simp; (try with_reducible rfl)
      try simp only [Act.put, List.setIfInBounds_toArray, List.set_cons_zero, List.set_cons_succ]
      refine wpAnyH_takeD (i := 6) (v := ?_) (some 18) rfl rfl (by kernel_rfl) (by kernel_rfl) (by kernel_rfl) (fun _ _ _ h => h) (Or.inl ⟨by rfl, ?_⟩) (by assumption) ?_
      rotate_left
      · intro w hSw; (try dsimp only at hSw); go_simp; (try with_reducible rfl)
      try simp only [Act.put, List.setIfInBounds_toArray, List.set_cons_zero, List.set_cons_succ]
      refine wpAnyH_takeD (i := 7) (v := ?_) (some 19) rfl rfl (by kernel_rfl) (by kernel_rfl) (by kernel_rfl) (fun _ _ _ h => h) (Or.inl ⟨by rfl, ?_⟩) (by assumption) ?_
      rotate_left
      · intro w hSw; (try dsimp only at hSw); go_simp; (try with_reducible rfl)
      try simp only [Act.put, List.setIfInBounds_toArray, List.set_cons_zero, List.set_cons_succ]
      refine wpAnyH_takeD (i := 8) (v := .int .i64 (hi : Int)) (some 20) rfl rfl (by kernel_rfl) (by kernel_rfl) (by kernel_rfl) (fun _ _ _ h => h) (Or.inl ⟨by rfl, ?_⟩) (by assumption) ?_
      · intro w hSw; (try dsimp only at hSw); (go_simp; (try simp [m1, p1, p2])); (try with_reducible rfl)
      try simp only [Act.put, List.setIfInBounds_toArray, List.set_cons_zero, List.set_cons_succ]
      refine wpAnyH_takeD (i := 9) (v := ?_) (some 21) rfl rfl (by kernel_rfl) (by kernel_rfl) (by kernel_rfl) (fun _ _ _ h => h) (Or.inl ⟨by rfl, ?_⟩) (by assumption) ?_
      rotate_left
      · intro w hSw; (try dsimp only at hSw); go_simp; (try with_reducible rfl)
      try simp only [Act.put, List.setIfInBounds_toArray, List.set_cons_zero, List.set_cons_succ]
      refine wpAnyH_takeD (i := 10) (v := ?_) (some 22) rfl rfl (by kernel_rfl) (by kernel_rfl) (by kernel_rfl) (fun _ _ _ h => h) (Or.inl ⟨by rfl, ?_⟩) (by assumption) ?_
      rotate_left
      · intro w hSw; (try dsimp only at hSw); go_simp; (try with_reducible rfl)
      try simp only [Act.put, List.setIfInBounds_toArray, List.set_cons_zero, List.set_cons_succ]
      refine wpAnyH_takeD (i := 11) (v := ?_) (some 23) rfl rfl (by kernel_rfl) (by kernel_rfl) (by kernel_rfl) (fun _ _ _ h => h) (Or.inl ⟨by rfl, ?_⟩) (by assumption) ?_
      rotate_left
      · intro w hSw; (try dsimp only at hSw); go_simp; (try with_reducible rfl)
      try simp only [Act.put, List.setIfInBounds_toArray, List.set_cons_zero, List.set_cons_succ]
      refine wpAnyH_takeD (i := 12) (v := ?_) (some 24) rfl rfl (by kernel_rfl) (by kernel_rfl) (by kernel_rfl) (fun _ _ _ h => h) (Or.inl ⟨by rfl, ?_⟩) (by assumption) ?_
      rotate_left
      · intro w hSw; (try dsimp only at hSw); go_simp; (try with_reducible rfl)
      try simp only [Act.put, List.setIfInBounds_toArray, List.set_cons_zero, List.set_cons_succ]
      refine wpAnyH_takeD (i := 13) (v := ?_) (some 25) rfl rfl (by kernel_rfl) (by kernel_rfl) (by kernel_rfl) (fun _ _ _ h => h) (Or.inl ⟨by rfl, ?_⟩) (by assumption) ?_
      rotate_left
      · intro w hSw; (try dsimp only at hSw); go_simp; (try with_reducible rfl)
      try simp only [Act.put, List.setIfInBounds_toArray, List.set_cons_zero, List.set_cons_succ]
      refine wpAnyH_takeD (i := 14) (v := .int .i64 (min (hi : Int) (zs.length : Int))) (some 26) rfl rfl (by kernel_rfl) (by kernel_rfl) (by kernel_rfl) (fun _ _ _ h => h) (Or.inl ⟨by rfl, ?_⟩) (by assumption) ?_
      · intro w hSw; (try dsimp only at hSw); go_simp; (try with_reducible rfl)
      try simp only [Act.put, List.setIfInBounds_toArray, List.set_cons_zero, List.set_cons_succ]
      refine wpAnyH_takeD (i := 15) (v := .bool true) (some 27) rfl rfl (by kernel_rfl) (by kernel_rfl) (by kernel_rfl) (fun _ _ _ h => h) (Or.inl ⟨by rfl, ?_⟩) (by assumption) ?_
      · intro w hSw; (try dsimp only at hSw); (go_simp; (try simp [t1])); (try with_reducible rfl)
      try simp only [Act.put, List.setIfInBounds_toArray, List.set_cons_zero, List.set_cons_succ]
      refine wpAnyH_done (by kernel_rfl) ?_ _
      refine NoPanic.normal ?_
      have hup : upF (fun i => ((lo + i : Nat) : Int)) (q + 1) = upF (fun i => ((lo + i : Nat) : Int)) q ++ [(kk : Int)] := by rw [upF_succ, HKK.out]
      have hgg : (kk : Int) ∈ batS bt zs.length b := by rw [HBAT.out, HKK.out]; unfold upF; exact List.mem_map.2 ⟨q, List.mem_range.2 hlt, rfl⟩
      have hY1 := HY.out (upF (fun i => ((lo + i : Nat) : Int)) q) (kk : Int) wr.drew hgg HJD.out (by rw [upF_len, HBAT.out, upF_len]; exact hlt) hsz
      obtain ⟨fn, tmps, assign, body, hy, hR⟩ := hY1
      dsimp only [encsI] at hy
      have HR := Lib.hid hR
      have HUP := Lib.hid hup
      clear hR hup hgg
      --@4
      gi_wp2
      refine HR.out.mono ?_
      rintro e W4 (⟨rfl, hJ4, hk4⟩ | ⟨rfl, hJx4⟩)
      · have HJ4 := Lib.hid hJ4
        have HK4 := Lib.hid hk4
        clear hJ4 hk4 hy
        gi_wp2
        go_roundw
        case rel =>
          refine ⟨q + 1, kk + 1, by omega, Lib.hid (by rw [HKK.out]; omega), by go_num, by have := HKK.out; have := HCNT.out; have := HLH.out; omega, Lib.hid (by rw [HUP.out]; exact HJ4.out), Lib.hid (HKR.out.drew.trans HK4.out), ?_⟩
          have := HK4.out.1.size
          exact Nat.le_trans hsz this
        case measure => have := HKK.out; simp [intOf]; omega
      · have HJ4 := Lib.hid hJx4
        clear hJx4 hy
        gi_wp2
        refine bodyPost_ret (results_none rfl _ _ _) rfl ?_
        exact ⟨⟨_, rfl⟩, .inr ⟨_, trivial, HJ4.out⟩⟩
      --@end
      --@end
    · obtain rfl : q = cnt := by omega
      have t1 : decide ((kk : Int) < min (hi : Int) (zs.length : Int)) = false := by have := HKK.out; have := HLH.out; have := HCNT.out; simp; omega
      --@5
      gi_upto_region 1 with fail
      refine wpIn_wide.2 ?_
      refine wp_region_noPanic ?_
      refine wp_region_held_drew (S := (fun W => (W.cell? ⟨g3, 0, none⟩ = some (.int .i64 (b : Int)) ∧ W.cell? ⟨g2, 0, none⟩ = some (.pointer (some ⟨g, 0, none⟩))) ∧ W.cell? ⟨g, 2, none⟩ = some (.int .i64 (bt : Int)) ∧ W.cell? ⟨g, 4, none⟩ = some (.slice zA zs.length zc))) (by kernel_rfl) ?_ (fun hHeld => ?_)
      · (try dsimp only); (exact HS.out _ HKR.out.drew)
      refine wpAnyH_takeD (i := 0) (v := ?_) (some 12) rfl rfl (by kernel_rfl) (by kernel_rfl) (by kernel_rfl) (fun _ _ _ h => h) (Or.inl ⟨by rfl, ?_⟩) (by assumption) ?_
      rotate_left
      · intro w hSw; (try dsimp only at hSw); go_simp; (try with_reducible rfl)
      try simp only [Act.put, List.setIfInBounds_toArray, List.set_cons_zero, List.set_cons_succ]
      refine wpAnyH_takeD (i := 1) (v := ?_) (some 13) rfl rfl (by kernel_rfl) (by kernel_rfl) (by kernel_rfl) (fun _ _ _ h => h) (Or.inl ⟨by rfl, ?_⟩) (by assumption) ?_
      rotate_left
      · intro w hSw; (try dsimp only at hSw); go_simp; (try with_reducible rfl)
      try simp only [Act.put, List.setIfInBounds_toArray, List.set_cons_zero, List.set_cons_succ]
      refine wpAnyH_takeD (i := 2) (v := ?_) (some 14) rfl rfl (by kernel_rfl) (by kernel_rfl) (by kernel_rfl) (fun _ _ _ h => h) (Or.inl ⟨by rfl, ?_⟩) (by assumption) ?_
      rotate_left
      · intro w hSw; (try dsimp only at hSw); go_simp; (try with_reducible rfl)
      try simp only [Act.put, List.setIfInBounds_toArray, List.set_cons_zero, List.set_cons_succ]
      refine wpAnyH_takeD (i := 3) (v := ?_) (some 15) rfl rfl (by kernel_rfl) (by kernel_rfl) (by kernel_rfl) (fun _ _ _ h => h) (Or.inl ⟨by rfl, ?_⟩) (by assumption) ?_
      rotate_left
      · intro w hSw; (try dsimp only at hSw); go_simp; (try with_reducible rfl)
      try simp only [Act.put, List.setIfInBounds_toArray, List.set_cons_zero, List.set_cons_succ]
      refine wpAnyH_takeD (i := 4) (v := ?_) (some 16) rfl rfl (by kernel_rfl) (by kernel_rfl) (by kernel_rfl) (fun _ _ _ h => h) (Or.inl ⟨by rfl, ?_⟩) (by assumption) ?_
      rotate_left
      · intro w hSw; (try dsimp only at hSw); go_simp; (try with_reducible rfl)
      try simp only [Act.put, List.setIfInBounds_toArray, List.set_cons_zero, List.set_cons_succ]
      refine wpAnyH_takeD (i := 5) (v := ?_) (some 17) rfl rfl (by kernel_rfl) (by kernel_rfl) (by kernel_rfl) (fun _ _ _ h => h) (Or.inl ⟨by rfl, ?_⟩) (by assumption) ?_
      rotate_left
      · intro w hSw; (try dsimp only at hSw); go_simp; (try with_reducible rfl)
      try simp only [Act.put, List.setIfInBounds_toArray, List.set_cons_zero, List.set_cons_succ]
      refine wpAnyH_takeD (i := 6) (v := ?_) (some 18) rfl rfl (by kernel_rfl) (by kernel_rfl) (by kernel_rfl) (fun _ _ _ h => h) (Or.inl ⟨by rfl, ?_⟩) (by assumption) ?_
      rotate_left
      · intro w hSw; (try dsimp only at hSw); go_simp; (try with_reducible rfl)
      try simp only [Act.put, List.setIfInBounds_toArray, List.set_cons_zero, List.set_cons_succ]
      refine wpAnyH_takeD (i := 7) (v := ?_) (some 19) rfl rfl (by kernel_rfl) (by kernel_rfl) (by kernel_rfl) (fun _ _ _ h => h) (Or.inl ⟨by rfl, ?_⟩) (by assumption) ?_
      rotate_left
      · intro w hSw; (try dsimp only at hSw); go_simp; (try with_reducible rfl)
      try simp only [Act.put, List.setIfInBounds_toArray, List.set_cons_zero, List.set_cons_succ]
      refine wpAnyH_takeD (i := 8) (v := .int .i64 (hi : Int)) (some 20) rfl rfl (by kernel_rfl) (by kernel_rfl) (by kernel_rfl) (fun _ _ _ h => h) (Or.inl ⟨by rfl, ?_⟩) (by assumption) ?_
      · intro w hSw; (try dsimp only at hSw); (go_simp; (try simp [m1, p1, p2])); (try with_reducible rfl)
      try simp only [Act.put, List.setIfInBounds_toArray, List.set_cons_zero, List.set_cons_succ]
      refine wpAnyH_takeD (i := 9) (v := ?_) (some 21) rfl rfl (by kernel_rfl) (by kernel_rfl) (by kernel_rfl) (fun _ _ _ h => h) (Or.inl ⟨by rfl, ?_⟩) (by assumption) ?_
      rotate_left
      · intro w hSw; (try dsimp only at hSw); go_simp; (try with_reducible rfl)
      try simp only [Act.put, List.setIfInBounds_toArray, List.set_cons_zero, List.set_cons_succ]
      refine wpAnyH_takeD (i := 10) (v := ?_) (some 22) rfl rfl (by kernel_rfl) (by kernel_rfl) (by kernel_rfl) (fun _ _ _ h => h) (Or.inl ⟨by rfl, ?_⟩) (by assumption) ?_
      rotate_left
      · intro w hSw; (try dsimp only at hSw); go_simp; (try with_reducible rfl)
      try simp only [Act.put, List.setIfInBounds_toArray, List.set_cons_zero, List.set_cons_succ]
      refine wpAnyH_takeD (i := 11) (v := ?_) (some 23) rfl rfl (by kernel_rfl) (by kernel_rfl) (by kernel_rfl) (fun _ _ _ h => h) (Or.inl ⟨by rfl, ?_⟩) (by assumption) ?_
      rotate_left
      · intro w hSw; (try dsimp only at hSw); go_simp; (try with_reducible rfl)
      try simp only [Act.put, List.setIfInBounds_toArray, List.set_cons_zero, List.set_cons_succ]
      refine wpAnyH_takeD (i := 12) (v := ?_) (some 24) rfl rfl (by kernel_rfl) (by kernel_rfl) (by kernel_rfl) (fun _ _ _ h => h) (Or.inl ⟨by rfl, ?_⟩) (by assumption) ?_
      rotate_left
      · intro w hSw; (try dsimp only at hSw); go_simp; (try with_reducible rfl)
      try simp only [Act.put, List.setIfInBounds_toArray, List.set_cons_zero, List.set_cons_succ]
      refine wpAnyH_takeD (i := 13) (v := ?_) (some 25) rfl rfl (by kernel_rfl) (by kernel_rfl) (by kernel_rfl) (fun _ _ _ h => h) (Or.inl ⟨by rfl, ?_⟩) (by assumption) ?_
      rotate_left
      · intro w hSw; (try dsimp only at hSw); go_simp; (try with_reducible rfl)
      try simp only [Act.put, List.setIfInBounds_toArray, List.set_cons_zero, List.set_cons_succ]
      refine wpAnyH_takeD (i := 14) (v := .int .i64 (min (hi : Int) (zs.length : Int))) (some 26) rfl rfl (by kernel_rfl) (by kernel_rfl) (by kernel_rfl) (fun _ _ _ h => h) (Or.inl ⟨by rfl, ?_⟩) (by assumption) ?_
      · intro w hSw; (try dsimp only at hSw); go_simp; (try with_reducible rfl)
      try simp only [Act.put, List.setIfInBounds_toArray, List.set_cons_zero, List.set_cons_succ]
      refine wpAnyH_takeD (i := 15) (v := .bool false) (some 27) rfl rfl (by kernel_rfl) (by kernel_rfl) (by kernel_rfl) (fun _ _ _ h => h) (Or.inl ⟨by rfl, ?_⟩) (by assumption) ?_
      · intro w hSw; (try dsimp only at hSw); (go_simp; (try simp [t1])); (try with_reducible rfl)
      try simp only [Act.put, List.setIfInBounds_toArray, List.set_cons_zero, List.set_cons_succ]
      refine wpAnyH_done (by kernel_rfl) ?_ _
      refine NoPanic.normal ?_
      gi_wp2
      go_end0
      refine ⟨⟨_, rfl⟩, .inl ⟨_, rfl, ?_⟩⟩
      rw [HBAT.out]
      exact HJD.out
      --@end
  --@end
  --@end
end Go.Proofs.Ytfejedmpplbmjaa
