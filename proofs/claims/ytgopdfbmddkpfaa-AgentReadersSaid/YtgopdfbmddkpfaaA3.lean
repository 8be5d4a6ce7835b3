/- Contracts of tariffs and accounts; conditions: none. -/
import Derived.Test.YtgopdfbmddkpfaaA2
import Derived.Test.YtgopdfbmddkpfaaE2
import Derived.Deep.AppendLies
import Derived.Deep.RegionLaw
set_option linter.unusedSimpArgs false
set_option linter.unusedVariables false
namespace Go.Proofs.Ytgopdfbmddkpfaa
open Go.RowKit Go.Fh Go.Ag

theorem info57 : (Try.prog.info? 57).map (fun i => (i.zero, i.size, i.bytes)) = some (some (.agg #[.int .i64 0, .int .i64 0, .int .i64 0]), 3, 24) := by kernel_rfl

def AccAt (w : World) (Bx Ba base : Nat) (A : Option Addr) (c : Nat) (lines : List (Int × Int × Int)) (sum : Int) : Prop :=
  Blk w Bx 130 #[.pointer (some ⟨Ba, 0, none⟩)] ∧ Blk w Ba 53 #[.slice A lines.length c, .int .i64 sum] ∧ w.ownsRow base 57 3 (.slice A lines.length c) lines.length (lines.flatMap enc3)

set_option maxHeartbeats 1000000 in
theorem addLine_any (what copies each : Int) (Bx Ba base : Nat) (A : Option Addr) (c : Nat) (lines : List (Int × Int × Int)) (sum : Int) (w : World)
    (h : AccAt w Bx Ba base A c lines sum) (hb : base ≤ Ba) (hl : lines.length ≤ 1000) (hm1 : -1000000000000000 ≤ copies * each) (hm2 : copies * each ≤ 1000000000000000) (hs1 : -1000000000000000 ≤ sum) (hs2 : sum ≤ 1000000000000000) :
    Calls Try.prog 110 #[.int .i64 what, .int .i64 copies, .int .i64 each, .pointer (some ⟨Bx, 0, none⟩)] w fun e w' => e = .returned (.tuple #[]) ∧
      (∃ A' c', AccAt w' Bx Ba base A' c' (lines ++ [(what, copies, copies * each)]) (sum + copies * each)) ∧ Below base w w' := by
  obtain ⟨h1, h2, h3⟩ := h
  have c1 := h1.cell 0
  have c2 := h2.cell 0
  have c3 := h2.cell 1
  have f2 := h2.frozen 0
  have f3 := h2.frozen 1
  simp at c1 c2 c3
  obtain ⟨i0, hi0, hz0, hz1, hz2⟩ := info_parts info57
  have hw1 := IntWalk.i64_in (copies * each) (by omega)
  have hw2 := IntWalk.i64_in (sum + copies * each) (by omega)
  have hown := (h3.alloc (.cells #[.int .i64 what, .int .i64 copies, .int .i64 (copies * each)] 57)).drew
  have hnews : ∀ j u, [Value.int .i64 what, .int .i64 copies, .int .i64 (copies * each)][j]? = some u → (w.alloc (.cells #[.int .i64 what, .int .i64 copies, .int .i64 (copies * each)] 57)).drew.cell? ((⟨w.heap.size, 0, none⟩ : Addr).add j) = some u :=
    World.news_of_block (w := (w.alloc (.cells #[.int .i64 what, .int .i64 copies, .int .i64 (copies * each)] 57)).drew) (heap_alloc_new w _)
  have hn1 : ∀ u ∈ [Value.int .i64 what, .int .i64 copies, .int .i64 (copies * each)], u.oneCell' = true := by
    intro u hu; simp at hu; rcases hu with rfl | rfl | rfl <;> rfl
  have hBa := h2.lt
  have hBx := h1.lt
  have hbs : base ≤ w.heap.size := by have := h2.lt; omega
  have hbr := own_blk_ne h3 h2 (by decide)
  have hbx := own_blk_ne h3 h1 (by decide)
  have hxa := h1.ne_ h2 (by decide)
  have HOWN := Lib.hid hown
  have HNEWS := Lib.hid hnews
  have H1 := Lib.hid h1
  have H2 := Lib.hid h2
  have H3 := Lib.hid h3
  have HBR := Lib.hid hbr
  have HBX := Lib.hid hbx
  clear hown hnews h1 h2 h3 hbr hbx
  go_enter Try.func110, Try.ntmps110
  go_wp2
  go_region_law (refine step_append_lies _ rfl (.tmp 11) (.tmp 18) 51 rfl base 57 i0 _ 3 24 Try.underlying51 hi0 hz0 hz1 hz2 rfl (by decide) (.slice A lines.length c) lines.length (lines.flatMap enc3) (by simp [Act.eval, Act.put]) HOWN.out ⟨w.heap.size, 0, none⟩ 1 1 [.int .i64 what, .int .i64 copies, .int .i64 (copies * each)] (by simp [Act.eval, Act.put]) rfl HNEWS.out hn1 (by decide) (by simp only [maxLen]; omega) (by omega) (by simp; omega) _ rfl ?_; intro g cap w1 hown1 hg1 hat hlt1; have b1 := ((H1.out.alloc (.cells #[.int .i64 what, .int .i64 copies, .int .i64 (copies * each)] 57)).drew).grown hg1 HBX.out; have b2 := ((H2.out.alloc (.cells #[.int .i64 what, .int .i64 copies, .int .i64 (copies * each)] 57)).drew).grown hg1 HBR.out; have d1 := b2.cell 0; have d2 := b2.cell 1; have e1 := b2.frozen 0; have e2 := b2.frozen 1; have d3 := b1.cell 0; simp at d1 d2 d3)
  all_goals go_wp2
  all_goals
    go_end0
    have hne := own_blk_ne hown1 b2 (by decide)
    refine ⟨rfl, ⟨some ⟨g, 0, none⟩, cap, (b1.far hxa _).far hxa _, ?_, own_far (own_far (by simpa [enc3] using hown1) (by simpa using hne) _) (by simpa using hne) _⟩, ?_⟩
    · have := (b2.set_ 0 (.slice (some ⟨g, 0, none⟩) (lines.length + 1) cap)).set_ 1 (.int .i64 (sum + copies * each))
      simpa using this
    · exact ((((((Below.refl base w).alloc hbs _).drew).grown hg1 (by simp; omega) (fun k hk => by have := H3.out.lt k hk; omega)).setCell (by exact hb) _).setCell (by exact hb) _)
end Go.Proofs.Ytgopdfbmddkpfaa
