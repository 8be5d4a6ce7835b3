/- A law for a range over an iterator that keeps no cells of its own; conditions: as it says. -/
import Derived.Test.YtfejedmpplbmjaaC1
set_option linter.unusedSimpArgs false
set_option linter.unusedVariables false
namespace Go.Fh
open Go.RowKit
variable {F : Fence} {n : Nat} {P : Program}
/-- the contract of an iterator that lays nothing but what it may -/
def SeqL {α : Type} (F : Fence) (n : Nat) (P : Program) (gf : Nat) (lb : Array Value) (encs : α → Array Value) (Kp : Nat → World → World → Prop) (G : α → Prop) (S Sp : List α → Prop) (N : Nat) (w0 : World) : Prop :=
  ∀ (l : Nat) (J Jx : List α → World → Prop) (W : World), Below w0.heap.size w0 W → AbidesC W.heap.size J → AbidesC W.heap.size Jx →
    (∀ pre x W1, G x → J pre W1 → pre.length < N → W.heap.size ≤ W1.heap.size → YieldAt F (n - 1) P l (encs x) W1 fun e W' => (e = .returned (.bool true) ∧ J (pre ++ [x]) W' ∧ Kp W.heap.size W1 W') ∨ (e = .returned (.bool false) ∧ Jx (pre ++ [x]) W')) →
    J [] W → CallsIn F n P gf (#[.func (.yield l) #[] #[]] ++ lb) W fun e W' => (∃ v, e = .returned v) ∧ ((∃ xs, S xs ∧ J xs W') ∨ (∃ pre, Sp pre ∧ Jx pre W'))
theorem range_loop {α : Type} {g : Operand} {ps : Array Tmp} {assign body : Code} {Q : Exit → Act → World → Prop} {a : Act} {w : World}
    (hro : F.round = none) (h1 : 1 ≤ n) {gf : Nat} {lb : Array Value} (hg : a.eval g = .func (.func gf) #[] lb) (hFg : F.fn gf) (eg : ∀ args w, (callFunc gf args).run P w = .ok (.enter gf args) w)
    {encs : α → Array Value} {Kp : Nat → World → World → Prop} {G : α → Prop} {S Sp : List α → Prop} {N : Nat} {w0 : World} (hseq : SeqL F (n - 1) P gf lb encs Kp G S Sp N w0) (hb0 : Below w0.heap.size w0 w) (hps : ∀ x, (encs x).size = ps.size)
    (hKl : ∀ A B C, w.heap.size + 2 ≤ A.heap.size → Kp (w.heap.size + 2) A B → B.grownBy C (some (w.heap.size + 1)) → Kp (w.heap.size + 2) A C)
    (I : List α → World → Prop) (Ix : Code → List α → World → Prop)
    (hI : ∀ s X Y r, w.heap.size ≤ r → r ≤ w.heap.size + 2 → I s X → X.grownBy Y (some r) → I s Y) (hIx : ∀ c s X Y r, w.heap.size ≤ r → r ≤ w.heap.size + 2 → Ix c s X → X.grownBy Y (some r) → Ix c s Y) (h0 : I [] w)
    (hround : ∀ (l : Nat) (pre : List α) (x : α) (W : World), G x → I pre W → pre.length < N → w.heap.size + 2 ≤ W.heap.size →
      assign.wpIn (F.inRound l) (n - 1 - 1) P (Exit.then (fun a' Wa => Two w.heap.size W Wa ∧ ∀ W2, Wa.grownBy W2 (some (w.heap.size + 1)) → W2.heap.size = Wa.heap.size →
          body.wpIn (F.inRound l) (n - 1 - 1) P (postC w.heap.size (Kp (w.heap.size + 2) W) I Ix (pre ++ [x]) W2) a' W2) (fun _ _ _ => False)) { tmps := (ps.zip (encs x)).foldl (fun t (p, v) => t.setIfInBounds p v) a.tmps, defers := [] } W)
    (hdone : ∀ (xs : List α) (W : World), S xs → I xs W → W.heap[w.heap.size]? = some (.deferred (some [])) → Q .normal { a with defers := { target := .collected w.heap.size, args := #[] } :: a.defers } W)
    (hstop : ∀ (c : Code) (pre : List α) (W : World), Sp pre → Ix c pre W → W.heap[w.heap.size]? = some (.deferred (some [])) → c.wpIn F n P Q { a with defers := { target := .collected w.heap.size, args := #[] } :: a.defers } W) :
    (Code.rangeFunc g ps assign body).wpIn F n P Q a w := by
  refine wpIn_rangeFunc fun fn hfn => ?_
  rw [hro]
  let rec_ : LoopState → Option Code → Loop := fun st pe => { state := st, pending := pe, fn := fn, tmps := a.tmps, params := ps, assign := assign, body := body, defers := w.heap.size }
  obtain ⟨d, hd⟩ : ∃ d, d = w.heap.size := ⟨_, rfl⟩
  obtain ⟨Wd, hWd⟩ : ∃ W, W = w.alloc (.deferred (some [])) := ⟨_, rfl⟩
  obtain ⟨Wl, hWl⟩ : ∃ W, W = Wd.alloc (.loop (rec_ .ready none)) := ⟨_, rfl⟩
  have hsd : Wd.heap.size = d + 1 := by rw [hWd, hd]; simp
  have hsl : Wl.heap.size = d + 2 := by rw [hWl, World.size_alloc, hsd]
  have hl0 : Wl.heap[d + 1]? = some (.loop (rec_ .ready none)) := by rw [hWl, ← hsd]; exact World.alloc_heap_new Wd _
  have hd0 : Wl.heap[d]? = some (.deferred (some [])) := by
    rw [hWl, Below.heap_alloc Wd _ d (by omega), hWd, hd]; exact World.alloc_heap_new w _
  have hbl : Below w0.heap.size w0 Wl := by
    have h1 := hb0.size
    rw [hWl, hWd]; exact (hb0.alloc h1 _).alloc (by simp; omega) _
  have hIl : I [] Wl := by
    rw [hWl, hWd]
    have i1 := hI [] w (w.alloc (.deferred (some []))) w.heap.size (Nat.le_refl _) (by omega) h0 (World.grownBy_alloc _ _ _)
    exact hI [] _ _ w.heap.size (Nat.le_refl _) (by omega) i1 (World.grownBy_alloc _ _ _)
  refine ⟨d + 1, [{ target := .collected d, args := #[] }], Wl, { target := .fn (.func gf) lb, args := #[.func (.yield (d + 1)) #[] #[]] }, Wl, gf, #[.func (.yield (d + 1)) #[] #[]] ++ lb, Wl, ?_, ?_, ?_, ?_, fun _ => h1, ?_⟩
  · rw [hWl, hWd, hd]; exact run_enterLoop_outer _ _ _ _ _
  · simp only [resolve, hg]
    simp [go_sem]
  · intro f' hf'
    simp [Target.leads] at hf'
    subst hf'
    exact hFg
  · simp [invoke, go_sem, eg]
  have hturn : ∀ (X Y : World) (o : Obj) (k : Nat), k < d + 2 → X.heap[k]? = some o → X.grownBy Y (some Wl.heap.size) → Y.heap[k]? = some o := by
    intro X Y o k hk hx hg
    refine (hg.block k (Array.getElem?_eq_some_iff.1 hx).1 (fun e => ?_)).trans hx
    injection e with e
    omega
  refine (hseq (d + 1) (fun pre W => I pre W ∧ W.heap[d + 1]? = some (.loop (rec_ .ready none)) ∧ W.heap[d]? = some (.deferred (some [])))
    (fun pre W => ∃ c, Ix c pre W ∧ W.heap[d + 1]? = some (.loop (rec_ .done (some c))) ∧ W.heap[d]? = some (.deferred (some []))) Wl hbl ?_ ?_ ?_ ⟨hIl, hl0, hd0⟩).mono ?_
  · rintro s X Y ⟨q1, q2, q3⟩ hg
    exact ⟨hI s X Y _ (by rw [hsl, hd]; omega) (by rw [hsl, hd]; omega) q1 hg, hturn X Y _ _ (by omega) q2 hg, hturn X Y _ _ (by omega) q3 hg⟩
  · rintro s X Y ⟨c, q1, q2, q3⟩ hg
    exact ⟨c, hIx c s X Y _ (by rw [hsl, hd]; omega) (by rw [hsl, hd]; omega) q1 hg, hturn X Y _ _ (by omega) q2 hg, hturn X Y _ _ (by omega) q3 hg⟩
  · rintro pre x W hG ⟨hi, hl, hk⟩ hlen hsz
    rw [hsl] at hsz
    refine ⟨fn, _, assign, body, run_yield hl (hps x), roundIn_of_wpIn hfn (wpIn_mono (hround _ pre x W hG hi hlen (by rw [← hd]; exact hsz)) ?_)⟩
    intro e a' Wa hp
    cases e with
    | normal =>
      obtain ⟨⟨t1, t2⟩, hb⟩ := hp
      rw [← hd] at t1 t2
      have hla : Wa.heap[d + 1]? = some (.loop (rec_ .ready none)) := t2.trans hl
      refine ⟨_, run_beginRound hla rfl, ?_⟩
      have hlt : d + 1 < Wa.heap.size := (Array.getElem?_eq_some_iff.1 hla).1
      have hb2 := hb (Wa.putObj (d + 1) (.loop { rec_ .ready none with state := .busy })) (by rw [← hd]; exact turn_grown) (by simp [World.putObj])
      refine wpIn_mono hb2 ?_
      have hlb : (Wa.putObj (d + 1) (.loop { rec_ .ready none with state := .busy })).heap[d + 1]? = some (.loop { rec_ .ready none with state := .busy }) := World.putObj_heap_same hlt
      have hkb : (Wa.putObj (d + 1) (.loop { rec_ .ready none with state := .busy })).heap[d]? = some (.deferred (some [])) := (World.putObj_heap_other (by omega)).trans (t1.trans hk)
      have fin : ∀ (jump : Option Code) (W3 : World), Two d (Wa.putObj (d + 1) (.loop { rec_ .ready none with state := .busy })) W3 →
          (Instr.endRound (d + 1) jump).run P W3 = .ok (.bool jump.isNone) (W3.putObj (d + 1) (.loop (rec_ (if jump.isNone then .ready else .done) jump))) ∧
          (W3.putObj (d + 1) (.loop (rec_ (if jump.isNone then .ready else .done) jump))).heap[d + 1]? = some (.loop (rec_ (if jump.isNone then .ready else .done) jump)) ∧
          (W3.putObj (d + 1) (.loop (rec_ (if jump.isNone then .ready else .done) jump))).heap[d]? = some (.deferred (some [])) := by
        intro jump W3 h3
        have hl3 := h3.2.trans hlb
        exact ⟨run_endRound jump hl3, World.putObj_heap_same (Array.getElem?_eq_some_iff.1 hl3).1, (World.putObj_heap_other (by omega)).trans (h3.1.trans hkb)⟩
      intro e3 a3 W3 hp3
      cases e3 with
      | normal =>
        obtain ⟨q1, q2, q3⟩ := hp3
        rw [← hd] at q1
        obtain ⟨r1, r2, r3⟩ := fin none W3 q1
        exact ⟨_, _, r1, .inl ⟨rfl, ⟨hI _ _ _ (d + 1) (by omega) (by omega) q3 turn_grown, r2, r3⟩, by rw [hsl, hd]; exact hKl _ _ _ (by rw [← hd]; exact hsz) q2 (by exact turn_grown)⟩⟩
      | ret =>
        obtain ⟨q1, q3⟩ := hp3
        rw [← hd] at q1
        obtain ⟨r1, r2, r3⟩ := fin (some .ret) W3 q1
        exact ⟨_, _, r1, .inr ⟨rfl, .ret, hIx _ _ _ _ (d + 1) (by omega) (by omega) q3 turn_grown, r2, r3⟩⟩
      | exit id =>
        obtain ⟨q1, q3⟩ := hp3
        rw [← hd] at q1
        obtain ⟨r1, r2, r3⟩ := fin (some (.exit id)) W3 q1
        exact ⟨_, _, r1, .inr ⟨rfl, .exit id, hIx _ _ _ _ (d + 1) (by omega) (by omega) q3 turn_grown, r2, r3⟩⟩
      | goto t =>
        obtain ⟨q1, q3⟩ := hp3
        rw [← hd] at q1
        obtain ⟨r1, r2, r3⟩ := fin (some (.goto t)) W3 q1
        exact ⟨_, _, r1, .inr ⟨rfl, .goto t, hIx _ _ _ _ (d + 1) (by omega) (by omega) q3 turn_grown, r2, r3⟩⟩
      | panic ch => exact hp3.elim
      | outgrown => exact hp3.elim
    | ret => exact hp.elim
    | exit id => exact hp.elim
    | goto t => exact hp.elim
    | panic ch => exact hp.elim
    | outgrown => exact hp.elim
  · rintro e W2 ⟨⟨v, rfl⟩, (⟨xs, hS, hi, hl, hk⟩ | ⟨pre, hSp, c, hi, hl, hk⟩)⟩
    · refine ⟨none, _, run_endLoop hl (by simp [rec_]), ?_⟩
      rw [hd] at hk ⊢
      exact hdone xs _ hS (hI _ _ _ (w.heap.size + 1) (by omega) (by omega) hi turn_grown) ((World.putObj_heap_other (by omega)).trans hk)
    · refine ⟨some c, _, run_endLoop hl (by simp [rec_]), ?_⟩
      rw [hd] at hk ⊢
      exact hstop c pre _ hSp (hIx c _ _ _ (w.heap.size + 1) (by omega) (by omega) hi turn_grown) ((World.putObj_heap_other (by omega)).trans hk)
end Go.Fh
