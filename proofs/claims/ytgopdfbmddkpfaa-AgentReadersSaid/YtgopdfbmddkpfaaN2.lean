/- The days of a method: what a range over them may count on; conditions: none. -/
import Derived.Test.YtgopdfbmddkpfaaN1
import Derived.Test.YtgopdfbmddkpfaaBase
set_option linter.unusedSimpArgs false
set_option linter.unusedVariables false
namespace Go.Proofs.Ytgopdfbmddkpfaa
open Go.RowKit Go.Shelf Go.Ag Go.Fh
attribute [local go_sem] Oper.semAt_some
theorem ownsRow_mono {W : World} {a b : Nat} {e : TypeId} {size n : Nat} {v : Value} {xs : List Value} (hab : a ≤ b) (h : W.ownsRow b e size v n xs) : W.ownsRow a e size v n xs := by
  refine ⟨h.1, ?_⟩
  rcases h.2 with h0 | ⟨g, cap, cur, e, hb, rest⟩
  · exact .inl h0
  · exact .inr ⟨g, cap, cur, e, by omega, rest⟩
theorem appended2 {W w1 : World} {n₀ n₁ B : Nat} {t e : TypeId} {size : Nat} {v v' : Value} {k m : Nat} {xs ys : List Value} {tmp : Obj}
    (hv : Boxed W B t v) (hte : t ≠ e) (hrow : W.ownsRow n₁ e size v k xs) (hn : n₀ ≤ n₁) (hn₁ : n₁ ≤ W.heap.size) (hB : n₀ ≤ B)
    (hown' : w1.ownsRow n₁ e size v' m ys) (hgrow : (W.alloc tmp).grownBy w1 v.ownBlock) :
    (Boxed w1 B t v ∧ Boxed (w1.setCell ⟨B, 0, none⟩ v') B t v' ∧ (w1.setCell ⟨B, 0, none⟩ v').ownsRow n₁ e size v' m ys ∧ KeepsOthers W (w1.setCell ⟨B, 0, none⟩ v') ∧ Below n₀ W (w1.setCell ⟨B, 0, none⟩ v')) ∧
    ∀ g, g < n₁ → g ≠ B → (w1.setCell ⟨B, 0, none⟩ v').heap[g]? = W.heap[g]? := by
  obtain ⟨h1, h2, h3, h4, h5⟩ := hv.appended hte (ownsRow_mono hn hrow) (Nat.le_trans hn hn₁) hB (ownsRow_mono hn hown') hgrow
  refine ⟨⟨h1, h2, hown'.kept (grownBy_setCell' w1 B v') (.inr (h1.not_row hte hown').symm), h4, h5⟩, fun g hg hgB => ?_⟩
  have e1 : (w1.setCell ⟨B, 0, none⟩ v').heap[g]? = w1.heap[g]? := Below.heap_setCell w1 ⟨B, 0, none⟩ v' g (fun e => hgB e)
  have e2 : w1.heap[g]? = (W.alloc tmp).heap[g]? := hgrow.block g (by simp; omega) (fun e => by
    rcases hrow.2 with ⟨rfl, _⟩ | ⟨g', cap, cur, rfl, hb, _⟩
    · simp [Value.ownBlock] at e
    · have : g = g' := by simpa [Value.ownBlock] using e
      omega)
  have e3 : (W.alloc tmp).heap[g]? = W.heap[g]? := Below.heap_alloc W tmp g (by omega)
  exact e1.trans (e2.trans e3)

theorem iter_stops (F : Fence) (n : Nat) (h7 : F.fn 138) (hro : F.round = none) (hn : 1 ≤ n) (B1 B2 : Nat) (m : Int × Int) (day : Int) (hd0 : 0 ≤ day) (hd1 : day ≤ 100000) (hm0 : 0 ≤ m.2) (hm1 : m.2 ≤ 1000) (w : World) (hb1 : B1 < w.heap.size) (hb2 : B2 < w.heap.size)
    (hk1 : w.cell? ⟨B1, 0, none⟩ = some (.int .i64 m.1)) (hk2 : w.cell? ⟨B1, 1, none⟩ = some (.int .i64 m.2)) (hk3 : w.cell? ⟨B2, 0, none⟩ = some (.int .i64 day)) :
    SeqStopsK F n Try.prog 138 #[.pointer (some ⟨B1, 0, none⟩), .pointer (some ⟨B2, 0, none⟩)] (fun x : DayI day => #[Value.int .i64 x.1]) (Kpt B1 B2) (fun ys => ys = uptoF (fD m day) (lookN m day)) (fun pre => ∃ k, k ≤ lookN m day ∧ pre = uptoF (fD m day) k) (lookN m day) w := fun l J Jx W hW _ _ hY h0 =>
  iter_in F n h7 hro hn l B1 B2 m day hd0 hd1 hm0 hm1 J Jx hY W ((hW.cell (p := ⟨B1, 0, none⟩) hb1).trans hk1) ((hW.cell (p := ⟨B1, 1, none⟩) hb1).trans hk2) ((hW.cell (p := ⟨B2, 0, none⟩) hb2).trans hk3) h0
end Go.Proofs.Ytgopdfbmddkpfaa
