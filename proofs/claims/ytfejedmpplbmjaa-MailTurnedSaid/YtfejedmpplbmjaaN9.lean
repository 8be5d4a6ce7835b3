/- What becomes of a copy, plainly; Repeat of nothing; an append of any number in a drawn region; conditions: as each says. Printed by a program. -/
import Derived.Test.YtfejedmpplbmjaaN8
import Derived.Maps.AppendAt
set_option linter.unusedSimpArgs false
set_option linter.unusedVariables false
namespace Go.Ml
open Go.RowKit Go.Fh
/-- what a copy has got so far -/
structure CpS where
  parts : List Int
  right : Bool
  thrown : Bool
  repaired : Bool
def watS (d : LnD) (p : Int) : Int := (d.hops.getD (fdS d.hops p).toNat (0, 0)).2
/-- a part that lacks, and is put in by hand -/
def fixS (d : LnD) (n p : Int) : Bool := decide (n = 0) && d.rep.any fun y => p == y
/-- a fault that is seen -/
def metS (d : LnD) (n p : Int) : Bool := decide (n ≠ 1) && decide (watS d p = 2)
def nnS (d : LnD) (n p : Int) : Int := if metS d n p && fixS d n p then 1 else n
def cpStep (d : LnD) (c : Int → Int) (s : CpS) (p : Int) : CpS :=
  ⟨s.parts ++ List.replicate (nnS d (c (fdS d.hops p)) p).toNat p, s.right && decide (nnS d (c (fdS d.hops p)) p = 1), s.thrown || (metS d (c (fdS d.hops p)) p && !fixS d (c (fdS d.hops p)) p), s.repaired || (metS d (c (fdS d.hops p)) p && fixS d (c (fdS d.hops p)) p)⟩
def cp0 : CpS := ⟨[], true, false, false⟩
def cpL (d : LnD) (c : Int → Int) (l : List Int) : CpS := l.foldl (cpStep d c) cp0
def znL (d : LnD) (z : Int) : List Int := d.zones.getD z.toNat []
/-- what becomes of copy k -/
def cpS (d : LnD) (zs : List Int) (fs : List (Int × Int × Bool)) (k : Int) : CpS := cpL d (putS fs k) (znL d (zAt zs k))
theorem cpL_app (d : LnD) (c : Int → Int) (l : List Int) (p : Int) : cpL d c (l ++ [p]) = cpStep d c (cpL d c l) p := by simp [cpL]
theorem nnS_bd {d : LnD} {n p : Int} (h : 0 ≤ n ∧ n ≤ 2) : 0 ≤ nnS d n p ∧ nnS d n p ≤ 2 := by unfold nnS; split <;> omega
theorem cpL_go {d : LnD} {c : Int → Int} (hc : ∀ h, 0 ≤ c h ∧ c h ≤ 2) : ∀ (l : List Int) (s : CpS), (l.foldl (cpStep d c) s).parts.length ≤ s.parts.length + 2 * l.length := by
  intro l
  induction l with
  | nil => intro s; simp
  | cons p l ih =>
    intro s
    have h1 := ih (cpStep d c s p)
    have h2 : (cpStep d c s p).parts.length ≤ s.parts.length + 2 := by
      have := nnS_bd (d := d) (p := p) (hc (fdS d.hops p))
      unfold cpStep
      simp
      omega
    rw [List.foldl_cons, List.length_cons]
    omega
theorem cpL_len {d : LnD} {c : Int → Int} (hc : ∀ h, 0 ≤ c h ∧ c h ≤ 2) (l : List Int) : (cpL d c l).parts.length ≤ 2 * l.length := by
  have := cpL_go (d := d) hc l cp0
  simpa [cpL, cp0] using this
end Go.Ml
namespace Go.Fh
open Go.RowKit
/-- an append of any number of cells onto an own row, at a step of a drawn region -/
theorem step_append_at {P : Program} {w : World} {ops : Array Oper} {o : Oper} {a : Act} {K : Act → World → Prop} {Q : Exit → Act → World → Prop} {E : Prop} (hgd : o.guard = none) (s x : Operand) (t : TypeId)
    (ho : o.op = .call { callee := .builtin .append, args := #[s, x], argTypes := #[t, t] })
    (base : Nat) (e : TypeId) (i : TypeInfo) (z : Value) (size bytes : Nat) (ht : P.underlying t = some (.slice e)) (hi : P.info? e = some i) (hz : i.zero = some z)
    (hsize : i.size = size) (hby : i.bytes = bytes) (hzs : z.cells.size = size) (hsz : 0 < size)
    (v : Value) (n : Nat) (xs : List Value) (hs : a.eval s = v) (hown : w.ownsRow base e size v n xs)
    (ad : Addr) (m c : Nat) (news : List Value) (hx : a.eval x = .slice (some ad) m c) (hl : news.length = m * size) (hnews : ∀ j u, news[j]? = some u → w.cell? (ad.add j) = some u) (h1 : ∀ u ∈ news, u.oneCell' = true)
    (h63 : n + m ≤ maxLen) (hbytes : (n + m) * bytes ≤ 140737488355328) (hbase : base ≤ w.heap.size)
    (h : ∀ v' w', w'.ownsRow base e size v' (n + m) (xs ++ news) → w.grownBy w' v.ownBlock → K (a.put o.dst v') w') :
    if Region.wanted o (yielded ops a.tmps) = true then Oper.wp P o a w K Q else E := by
  have hw : Region.wanted o (yielded ops a.tmps) = true := by simp [Region.wanted, hgd]
  rw [if_pos hw]
  obtain ⟨v', w', hr, h2, h3, h4, h5⟩ := run_append_own_at (P := P) w base t o.type e i z size bytes ht hi hz hsize hby hzs hsz v n xs hown ad m c news hl hnews h1 h63 hbytes hbase
  unfold Oper.wp execOp
  simp only [ho, resolve, invoke, builtin, Sem.run_bind, Sem.run_pure, Result.andThen_ok, List.map_toArray, List.map_cons, List.map_nil, hs, hx, hr]
  exact h v' w' h2 h3
end Go.Fh
namespace Go.Proofs.Ytfejedmpplbmjaa
open Go.RowKit Go.Fh
open Go.Lib hiding intOf
set_option maxRecDepth 20000 in
set_option maxHeartbeats 2000000 in
theorem repeat_zero (A : Option Addr) (c : Nat) (u : Int) (N : Nat) (w : World) (hN0 : N = 0) (hA : Sl encInt 1 w w.heap.size A [u]) :
    Calls Try.prog 83 #[.slice A 1 c, .int .i64 N] w fun e w' => ∃ g, e = .returned (.slice (some ⟨g, 0, none⟩) N N) ∧ w.heap.size ≤ g ∧ Blk w' g 3 (List.replicate N (Value.int .i64 u)).toArray ∧ Below w.heap.size w w' := by
  have hN : N ≤ 1000000 := by omega
  have HN0 := Lib.hid hN0
  clear hN0
  obtain ⟨b, off, rfl, hb, d0⟩ := hA.at1 (k := 0) (by simp)
  simp at d0
  have hmk := run_make_row' (P := Try.prog) 22 3 (.int .i64 0) 8 Try.underlying22 infoIntT rfl .i64 .i64 N (by omega) (by omega) w
  obtain ⟨w1, hw1⟩ : ∃ W, W = w.alloc (.cells (madeCells #[.int .i64 0] N) 3) := ⟨_, rfl⟩
  rw [← hw1] at hmk
  obtain ⟨g, hg⟩ : ∃ g, g = w.heap.size := ⟨_, rfl⟩
  have k1 : Blk w1 g 3 (List.replicate N (Value.int .i64 0)).toArray := by
    rw [hw1, hg, ← toList_madeCells_one]
    exact Blk.new w 3 _
  have hb1 : Below w.heap.size w w1 := by rw [hw1]; exact (Below.refl _ _).alloc (Nat.le_refl _) _
  rw [← hg] at hmk
  have hgs : w.heap.size ≤ g := by omega
  have d1 := (hb1.cell (p := ⟨b, off, none⟩) hb).trans d0
  have n1 : decide ((N : Int) < 0) = false := by simp
  have n2 : IntKind.u64.wrap (N : Int) = (N : Int) := by rw [IntKind.wrap_u64]; omega
  have n3 : IntKind.i64.wrap (N : Int) = (N : Int) := by rw [IntKind.wrap_i64]; omega
  have K1 := Lib.hid (show w1.heap[g]? = some (.cells (List.replicate N (Value.int .i64 0)).toArray 3 (0, 0)) from k1)
  have HB1 := Lib.hid hb1
  have N2 := Lib.hid n2
  have N3 := Lib.hid n3
  have D1 := Lib.hid d1
  clear k1 hb1 hg hw1 d0 hA n2 n3 d1
  go_enter Try.func83, Try.ntmps83
  go_upto_region 6 with (go_at_call 127; refine (mul128_any N hN _).mono ?_; rintro e w' ⟨rfl, rfl⟩)
  have hlen1 : (List.replicate N (Value.int .i64 0)).length = N := by simp
  have HM1 := Lib.hid (show ([] : List Value).length = Nat.min 1 N by have := HN0.out; show 0 = min 1 N; omega)
  have HM2 := Lib.hid (show 0 < ([] : List Value).length → (some ⟨g, 0, none⟩ : Option Addr) = some ⟨g, 0, none⟩ ∧ ∃ ad, (some ⟨b, off, none⟩ : Option Addr) = some ad ∧ ∀ j v, ([] : List Value)[j]? = some v → w1.cell? (ad.add j) = some v from fun h => absurd h (by simp))
  have HM3 := Lib.hid (show 0 + ([] : List Value).length ≤ (List.replicate N (Value.int .i64 0)).length by simp)
  have HM4 := Lib.hid (show ∀ v ∈ ([] : List Value), v.oneCell' = true from by intro v hv; cases hv)
  have HSP := Lib.hid (show splice (List.replicate N (Value.int .i64 0)) 0 [] = List.replicate N (Value.int .i64 u) from by rw [HN0.out]; rfl)
  go_upto_region 7 with fail
  clear hlen1
  go_wp2_with (with_reducible refine wpList_copy_splice rfl (.tmp 31) (.tmp 32) 22 22 rfl 3 Try.underlying22 infoIntS (some ⟨g, 0, none⟩) (some ⟨b, off, none⟩) N N 1 c rfl rfl g 0 (List.replicate N (.int .i64 0)) 3 K1.out [] HM1.out HM2.out HM3.out HM4.out w.heap.size w HB1.out hgs ?_; intro w2 hg2 hb2; have HB2 := Lib.hid hb2; clear hb2)
  have h2 := hg2.out
  rw [HSP.out] at h2
  have H2 := Lib.hid h2
  clear h2 hg2
  go_loopw [8] (fun n wr => ∃ k : Nat, n = .int .i64 (k : Int) ∧ Hid (k = N) ∧ wr = w2) (fun _ _ => 0)
  case atStart => exact ⟨N, by rw [HN0.out]; rfl, Lib.hid rfl, rfl⟩
  case round =>
    obtain ⟨k, rfl, HK, rfl⟩ := hrel
    have hk := HK.out
    clear HK
    subst hk
    go_wp2_with fail
    go_ret
    exact ⟨g, rfl, hgs, H2.out, HB2.out⟩
theorem repeat_all (A : Option Addr) (c : Nat) (u : Int) (N : Nat) (w : World) (hN : N ≤ 1000000) (hA : Sl encInt 1 w w.heap.size A [u]) :
    Calls Try.prog 83 #[.slice A 1 c, .int .i64 N] w fun e w' => ∃ g, e = .returned (.slice (some ⟨g, 0, none⟩) N N) ∧ w.heap.size ≤ g ∧ Blk w' g 3 (List.replicate N (Value.int .i64 u)).toArray ∧ Below w.heap.size w w' := by
  rcases Nat.eq_zero_or_pos N with h | h
  · exact repeat_zero A c u N w h hA
  · exact repeat_any A c u N w h hN hA
end Go.Proofs.Ytfejedmpplbmjaa
