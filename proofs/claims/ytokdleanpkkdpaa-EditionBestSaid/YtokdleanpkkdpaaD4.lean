/- Editions in memory: rows of their own; one zone more as a change of one edition; conditions: none. -/
import Derived.Test.YtokdleanpkkdpaaD3
import Derived.Deep.OwnRows
import Derived.Deep.Onto
set_option linter.unusedSimpArgs false
set_option linter.unusedVariables false
namespace Go.Fh
open Go.RowKit
/-- rows of cells of two kinds lie in two blocks -/
theorem own_own_ne {w : World} {b1 b2 : Nat} {e1 e2 : TypeId} {s1 s2 n1 n2 : Nat} {v1 v2 : Value} {x1 x2 : List Value} (h1 : w.ownsRow b1 e1 s1 v1 n1 x1) (h2 : w.ownsRow b2 e2 s2 v2 n2 x2) (hne : e1 ≠ e2) : v1.ownBlock = none ∨ v1.ownBlock ≠ v2.ownBlock := by
  rcases h1.2 with ⟨rfl, _⟩ | ⟨g, cap, cur, rfl, _, hg, _⟩
  · exact .inl rfl
  · right
    rcases h2.2 with ⟨rfl, _⟩ | ⟨g', cap', cur', rfl, _, hg', _⟩
    · simp [Value.ownBlock]
    · intro e
      simp [Value.ownBlock] at e
      subst e
      rw [hg] at hg'
      injection hg' with hg'
      injection hg' with _ h _
      exact hne h
theorem own_belowV {w w' : World} {b : Nat} {e : TypeId} {s n : Nat} {v : Value} {xs : List Value} (h : w.ownsRow b e s v n xs) (hb : Below w.heap.size w w') : w'.ownsRow b e s v n xs :=
  World.ownsRow.kept h (row := none) ⟨hb.os, hb.tape, hb.output, hb.size, fun j hj _ => hb.block j hj⟩ (by by_cases h : v.ownBlock = none; (exact .inl h); (exact .inr h))
/-- a row depends on its own block alone -/
theorem own_heap {w w' : World} {b : Nat} {e : TypeId} {s n : Nat} {v : Value} {xs : List Value} (h : w.ownsRow b e s v n xs) (hb : ∀ g cs, v.ownBlock = some g → w.heap[g]? = some (.cells cs e (0, 0)) → w'.heap[g]? = w.heap[g]?) : w'.ownsRow b e s v n xs := by
  refine ⟨h.1, ?_⟩
  rcases h.2 with h0 | ⟨g, cap, cur, rfl, h1, h2, h3⟩
  · exact .inl h0
  · exact .inr ⟨g, cap, cur, rfl, h1, (hb g cur rfl h2).trans h2, h3⟩
end Go.Fh
namespace Go.Proofs.Ytokdleanpkkdpaa
open Go.RowKit Go.Fh Go.Ed
set_option maxHeartbeats 1000000 in
theorem cloneOwn_any (A : Option Addr) (c : Nat) (l : List Int) (w : World) (hl : l.length * 8 ≤ 140737488355328) (hA : Sl encInt 1 w w.heap.size A l) :
    Calls Try.prog 40 #[.slice A l.length c] w fun e w' => ∃ A' c', e = .returned (.slice A' l.length c') ∧ w'.ownsRow w.heap.size 3 1 (.slice A' l.length c') l.length (l.map (Value.int .i64)) ∧ Below w.heap.size w w' := by
  have hnil := fun w n c n' c' a => Lib.run_eql_slice_nil (P := Try.prog) w 22 3 a n c n' c' Try.underlying22
  obtain ⟨i0, hi0, hz0, hz1, hz2⟩ := info_parts infoInt
  rcases A with _ | ad
  · have h0 := hA.none_nil
    subst h0
    go_enter Try.func40, Try.ntmps40
    go_wp2
    go_ret
    exact ⟨none, 0, rfl, World.ownsRow_nil _ _ _ _, Below.refl _ _⟩
  · have hs2 : ∀ x : Int, (encInt x).length = 1 := fun _ => rfl
    have hfl := length_flat (enc := encInt) (size := 1) hs2 l
    have hne : ∀ u ∈ l.flatMap encInt, u.oneCell' = true := by
      intro u hu; obtain ⟨x, _, hx⟩ := List.mem_flatMap.1 hu; simp [encInt] at hx; subst hx; rfl
    have hcells : ∀ (W : World), Below w.heap.size w W → ∀ j u, (l.flatMap encInt)[j]? = some u → W.cell? (ad.add j) = some u := fun W hb => (hA.below hb).flat hs2
    have hmap : l.flatMap encInt = l.map (Value.int .i64) := by
      clear hfl hne hcells hl hA
      induction l with
      | nil => rfl
      | cons x l ih => rw [List.flatMap_cons, ih]; rfl
    obtain ⟨fl, hflat⟩ : ∃ fl, fl = l.flatMap encInt := ⟨_, rfl⟩
    rw [← hflat] at hfl hne hcells hmap
    have HF := Lib.hid hfl
    have HFL := Lib.hid hmap
    clear hfl hflat hmap
    have hb0 := (Below.refl w.heap.size w).alloc (Nat.le_refl _) (.cells #[] 3)
    have hown := World.ownsRow_made (base := w.heap.size) (e := 3) (size := 1) w #[] 0 (Nat.le_refl _) (by decide) rfl
    go_enter Try.func40, Try.ntmps40
    go_wp2_with (at_builtin; refine wpList_append_own _ rfl (.tmp 5) (.tmp 6) 22 rfl w.heap.size 3 i0 _ 1 8 Try.underlying22 hi0 hz0 hz1 hz2 rfl (by decide) _ _ _ rfl hown ad l.length c fl rfl HF.out (hcells _ hb0) hne (by simp only [maxLen]; omega) (by omega) (by simp) ?_; intro v' w1 hown1 hg1 _)
    go_ret
    obtain ⟨A', c', rfl⟩ := own_shape hown1
    simp only [Nat.zero_add, List.nil_append] at hown1 ⊢
    refine ⟨A', c', rfl, by rw [← HFL.out]; exact hown1, hb0.grown hg1 (by simp) (fun k hk => ?_)⟩
    cases hk; exact Nat.le_refl _
end Go.Proofs.Ytokdleanpkkdpaa
namespace Go.Ed
open Go.Fh Go.RowKit Go.Proofs.Ytokdleanpkkdpaa
/-- the block of an edition's zones (false) or variants (true) -/
def eb (e : EdM) (b : Bool) : Option Nat := if b then e.2.v.map (·.block) else e.2.z.map (·.block)
def zV (e : EdM) : Go.Value := .slice e.2.z e.1.zones.length e.2.cz
def vV (e : EdM) : Go.Value := .slice e.2.v e.1.variants.length e.2.cv
theorem zV_own (e : EdM) : (zV e).ownBlock = eb e false := by unfold zV eb; cases e.2.z <;> rfl
theorem vV_own (e : EdM) : (vV e).ownBlock = eb e true := by unfold vV eb; cases e.2.v <;> rfl
structure EdsAt (w : Go.World) (B : Nat) (v : Go.Value) (es : List EdM) : Prop where
  row : w.ownsRow B 52 5 v es.length (es.flatMap encEd)
  zon : ∀ i (h : i < es.length), w.ownsRow B 3 1 (zV es[i]) es[i].1.zones.length (es[i].1.zones.map (Go.Value.int .i64))
  var : ∀ i (h : i < es.length), w.ownsRow B 3 1 (vV es[i]) es[i].1.variants.length (es[i].1.variants.map (Go.Value.int .i64))
  sep : ∀ i (h : i < es.length) b j (h' : j < es.length) c g, eb es[i] b = some g → eb es[j] c = some g → i = j ∧ b = c
theorem EdsAt.nil (w : Go.World) (B : Nat) : EdsAt w B (.slice none 0 0) [] :=
  ⟨Go.World.ownsRow_nil _ _ _ _, fun i h => absurd h (by simp), fun i h => absurd h (by simp), fun i h => absurd h (by simp)⟩
theorem EdsAt.frame {w w' : Go.World} {B : Nat} {v : Go.Value} {es : List EdM} (h : EdsAt w B v es) (hf : ∀ (g : Nat) cs e, e = 3 ∨ e = 52 → w.heap[g]? = some (Go.Obj.cells cs e (0, 0)) → w'.heap[g]? = w.heap[g]?) : EdsAt w' B v es :=
  ⟨own_heap h.row fun g cs _ hg => hf g cs 52 (.inr rfl) hg, fun i hi => own_heap (h.zon i hi) fun g cs _ hg => hf g cs 3 (.inl rfl) hg, fun i hi => own_heap (h.var i hi) fun g cs _ hg => hf g cs 3 (.inl rfl) hg, h.sep⟩
theorem lt_of_heap {w : Go.World} {g : Nat} {o : Go.Obj} (h : w.heap[g]? = some o) : g < w.heap.size := (Array.getElem?_eq_some_iff.1 h).1
theorem EdsAt.alloc {w : Go.World} {B : Nat} {v : Go.Value} {es : List EdM} (h : EdsAt w B v es) (o : Go.Obj) : EdsAt (w.alloc o) B v es := h.frame fun g _ _ _ hg => Below.heap_alloc w o g (lt_of_heap hg)
theorem EdsAt.below {w w' : Go.World} {B : Nat} {v : Go.Value} {es : List EdM} (h : EdsAt w B v es) (hb : Below w.heap.size w w') : EdsAt w' B v es := h.frame fun g _ _ _ hg => hb.block g (lt_of_heap hg)
/-- a block of another kind turns -/
theorem EdsAt.grown {w w' : Go.World} {B : Nat} {v : Go.Value} {es : List EdM} {b : Nat} (h : EdsAt w B v es) (hg : w.grownBy w' (some b)) (hb : ∀ cs e, e = 3 ∨ e = 52 → w.heap[b]? ≠ some (Go.Obj.cells cs e (0, 0))) : EdsAt w' B v es :=
  h.frame fun g cs e he hh => hg.block g (lt_of_heap hh) (fun q => by injection q with q; subst q; exact hb cs e he hh)
theorem blk_kind {w : Go.World} {g : Nat} {t : Go.TypeId} {cs : Array Go.Value} (h : Blk w g t cs) (h3 : t ≠ 3) (h52 : t ≠ 52) : ∀ cs e, e = 3 ∨ e = 52 → w.heap[g]? ≠ some (Go.Obj.cells cs e (0, 0)) := by
  intro cs' e he hh
  unfold Blk at h
  rw [h] at hh
  injection hh with hh
  injection hh with _ ht
  rcases he with rfl | rfl
  · exact h3 ht
  · exact h52 ht
theorem map_kind {κ ν : Type} {ek : κ → Go.Value} {ev : ν → Go.Value} {w : Go.World} {g : Nat} {m : List (κ × ν)} (h : MapIs ek ev w g m) : ∀ cs e, e = 3 ∨ e = 52 → w.heap[g]? ≠ some (Go.Obj.cells cs e (0, 0)) := by
  intro cs' e he hh
  obtain ⟨es, c, h, _⟩ := h
  rw [h] at hh; cases hh
theorem EdsAt.set_ {w : Go.World} {B : Nat} {v : Go.Value} {es : List EdM} (h : EdsAt w B v es) {g : Nat} {t : Go.TypeId} {cs : Array Go.Value} (hb : Blk w g t cs) (h3 : t ≠ 3) (h52 : t ≠ 52) (i : Nat) (u : Go.Value) : EdsAt (w.setCell ⟨g, i, none⟩ u) B v es :=
  h.frame fun g' cs e he hh => Below.heap_setCell w _ u g' (fun q => by subst q; exact blk_kind hb h3 h52 cs e he hh)
theorem encEd_len (e : EdM) : (encEd e).length = 5 := rfl
/-- one cell of the edition at a place is written anew, in its row -/
theorem flatMap_set1 : ∀ (es : List EdM) (n : Nat) (e : EdM) (j : Nat) (u : Go.Value) (h : n < es.length), j < 5 → encEd e = (encEd es[n]).set j u → (es.set n e).flatMap encEd = (es.flatMap encEd).set (n * 5 + j) u
  | [], n, e, j, u, h, _, _ => by simp at h
  | e0 :: es, 0, e, j, u, h, hj, he => by
    simp only [List.getElem_cons_zero] at he
    simp only [List.set_cons_zero, List.flatMap_cons, he]
    rw [List.set_append_left _ _ (by rw [encEd_len]; omega)]
    simp
  | e0 :: es, n + 1, e, j, u, h, hj, he => by
    have ih := flatMap_set1 es n e j u (by simpa using h) hj (by simpa using he)
    simp only [List.set_cons_succ, List.flatMap_cons, ih]
    rw [List.set_append_right _ _ (by rw [encEd_len]; omega), encEd_len]
    congr 2; omega
theorem getE_set {es : List EdM} {n : Nat} {e : EdM} {i : Nat} (hi : i < (es.set n e).length) : (es.set n e)[i] = if n = i then e else es[i]'(by simpa using hi) := by
  rw [List.getElem_set]
/-- a cell of an edition's own is written -/
theorem EdsAt.put {w : Go.World} {B g c n : Nat} {es : List EdM} (h : EdsAt w B (.slice (some ⟨g, 0, none⟩) es.length c) es) (hn : n < es.length) (e : EdM) (j : Nat) (u : Go.Value) (hj : j < 5) (he : encEd e = (encEd es[n]).set j u)
    (h1 : e.1.zones = es[n].1.zones ∧ e.1.variants = es[n].1.variants ∧ e.2 = es[n].2) : EdsAt (w.setCell ⟨g, n * 5 + j, none⟩ u) B (.slice (some ⟨g, 0, none⟩) es.length c) (es.set n e) := by
  have hg : ∀ (g' : Nat) cs e', e' = 3 → w.heap[g']? = some (Go.Obj.cells cs e' (0, 0)) → (w.setCell ⟨g, n * 5 + j, none⟩ u).heap[g']? = w.heap[g']? := by
    intro g' cs e' he' hh
    refine Below.heap_setCell w _ u g' (fun q => ?_)
    subst q
    rcases h.row.2 with ⟨h0, _⟩ | ⟨g2, cap, cur, hv, _, hc, _⟩
    · cases h0
    · cases hv
      rw [hh] at hc; injection hc with hc; injection hc with _ ht; rw [he'] at ht; cases ht
  have hz : ∀ i (hi : i < (es.set n e).length), (zV (es.set n e)[i] = zV (es[i]'(by simpa using hi)) ∧ vV (es.set n e)[i] = vV (es[i]'(by simpa using hi)) ∧ ((es.set n e)[i]).1.zones = (es[i]'(by simpa using hi)).1.zones ∧ ((es.set n e)[i]).1.variants = (es[i]'(by simpa using hi)).1.variants) ∧ ∀ b, eb (es.set n e)[i] b = eb (es[i]'(by simpa using hi)) b := by
    intro i hi
    rw [getE_set]
    by_cases q : n = i
    · subst q; rw [if_pos rfl]; simp [zV, vV, eb, h1.1, h1.2.1, h1.2.2]
    · rw [if_neg q]; simp
  refine ⟨?_, fun i hi => ?_, fun i hi => ?_, fun i hi b i' hi' b' g' q q' => ?_⟩
  · have := (h.row.stored (n * 5 + j) u).1
    rw [List.length_set, flatMap_set1 es n e j u hn hj he]
    exact this
  · rw [(hz i hi).1.1, (hz i hi).1.2.2.1]
    exact own_heap (h.zon i (by simpa using hi)) fun g' cs _ hh => hg g' cs 3 rfl hh
  · rw [(hz i hi).1.2.1, (hz i hi).1.2.2.2]
    exact own_heap (h.var i (by simpa using hi)) fun g' cs _ hh => hg g' cs 3 rfl hh
  · rw [(hz i hi).2] at q
    rw [(hz i' hi').2] at q'
    exact h.sep i (by simpa using hi) b i' (by simpa using hi') b' g' q q'
/-- one edition more, with variants in a row of its own -/
theorem EdsAt.push {w w' : Go.World} {B H : Nat} {v v' : Go.Value} {es : List EdM} (h : EdsAt w B v es) (e : EdM) (hz : e.1.zones = [] ∧ e.2.z = none ∧ e.2.cz = 0)
    (hv : w.ownsRow H 3 1 (vV e) e.1.variants.length (e.1.variants.map (Go.Value.int .i64))) (hB : B ≤ H) (hH : ∀ i (hi : i < es.length) b g, eb es[i] b = some g → g < H)
    (ho : w'.ownsRow B 52 5 v' (es.length + 1) (es.flatMap encEd ++ encEd e)) (hg : w.grownBy w' v.ownBlock) : EdsAt w' B v' (es ++ [e]) := by
  have hne : ∀ {n : Nat} {u : Go.Value} {xs : List Go.Value} {b' : Nat}, w.ownsRow b' 3 1 u n xs → w'.ownsRow b' 3 1 u n xs := fun hr => hr.kept hg (own_own_ne hr h.row (by decide))
  have hget : ∀ i (hi : i < (es ++ [e]).length), (∃ h' : i < es.length, (es ++ [e])[i] = es[i]) ∨ (i = es.length ∧ (es ++ [e])[i] = e) := by
    intro i hi
    by_cases q : i < es.length
    · exact .inl ⟨q, by rw [List.getElem_append_left q]⟩
    · have : i = es.length := by simp at hi; omega
      subst this; exact .inr ⟨rfl, by simp⟩
  have hnew : ∀ b g, eb e b = some g → b = true ∧ H ≤ g := by
    intro b g q
    cases b
    · simp [eb, hz.2.1] at q
    · refine ⟨rfl, ?_⟩
      have := (hv.lt g (by rw [vV_own]; exact q)).1
      exact this
  refine ⟨by simpa using ho, fun i hi => ?_, fun i hi => ?_, fun i hi b j hj c g q1 q2 => ?_⟩
  · rcases hget i hi with ⟨h', q⟩ | ⟨_, q⟩
    · rw [q]; exact hne (h.zon i h')
    · rw [q]; simp only [zV, hz.1, hz.2.1, hz.2.2]; exact Go.World.ownsRow_nil _ _ _ _
  · rcases hget i hi with ⟨h', q⟩ | ⟨_, q⟩
    · rw [q]; exact hne (h.var i h')
    · rw [q]; exact hne ((show w.ownsRow B 3 1 (vV e) e.1.variants.length (e.1.variants.map (Go.Value.int .i64)) from Go.World.ownsRow.mono hv hB))
  · rcases hget i hi with ⟨hi', p1⟩ | ⟨e1, p1⟩ <;> rcases hget j hj with ⟨hj', p2⟩ | ⟨e2, p2⟩ <;> rw [p1] at q1 <;> rw [p2] at q2
    · exact h.sep i hi' b j hj' c g q1 q2
    · exact absurd (hH i hi' b g q1) (by have := (hnew c g q2).2; omega)
    · exact absurd (hH j hj' c g q2) (by have := (hnew b g q1).2; omega)
    · exact ⟨by omega, by rw [(hnew b g q1).1, (hnew c g q2).1]⟩
/-- an edition's zones have got one more, and its cell is written -/
theorem EdsAt.addz {w w' : Go.World} {B g c n : Nat} {es : List EdM} (h : EdsAt w B (.slice (some ⟨g, 0, none⟩) es.length c) es) (hn : n < es.length) (k : Int) (g1 cap : Nat)
    (ho : w'.ownsRow B 3 1 (.slice (some ⟨g1, 0, none⟩) (es[n].1.zones.length + 1) cap) (es[n].1.zones.length + 1) (es[n].1.zones.map (Go.Value.int .i64) ++ [.int .i64 k])) (hg : w.grownBy w' (zV es[n]).ownBlock) (hl : (zV es[n]).ownBlock = some g1 ∨ w.heap.size ≤ g1) :
    EdsAt (w'.setCell ⟨g, n * 5, none⟩ (.slice (some ⟨g1, 0, none⟩) (es[n].1.zones.length + 1) cap)) B (.slice (some ⟨g, 0, none⟩) es.length c)
      (es.set n (⟨es[n].1.zones ++ [k], es[n].1.copies, es[n].1.ready, es[n].1.due, es[n].1.variants⟩, ⟨some ⟨g1, 0, none⟩, cap, es[n].2.v, es[n].2.cv⟩)) := by
  obtain ⟨e, he⟩ : ∃ e : EdM, e = (⟨es[n].1.zones ++ [k], es[n].1.copies, es[n].1.ready, es[n].1.due, es[n].1.variants⟩, ⟨some ⟨g1, 0, none⟩, cap, es[n].2.v, es[n].2.cv⟩) := ⟨_, rfl⟩
  rw [← he]
  have hzv : zV e = .slice (some ⟨g1, 0, none⟩) (es[n].1.zones.length + 1) cap := by rw [he]; simp [zV]
  rw [← hzv]
  have hvv : vV e = vV es[n] ∧ e.1.variants = es[n].1.variants := by rw [he]; exact ⟨rfl, rfl⟩
  have henc : encEd e = (encEd es[n]).set 0 (zV e) := by rw [he]; simp [encEd, zV]
  have hrow := h.row.kept hg (own_own_ne h.row (h.zon n hn) (by decide))
  have hg3 : ∀ (g' : Nat) cs e', e' = 3 → w'.heap[g']? = some (Go.Obj.cells cs e' (0, 0)) → (w'.setCell ⟨g, n * 5, none⟩ (zV e)).heap[g']? = w'.heap[g']? := by
    intro g' cs e' he' hh
    refine Below.heap_setCell w' _ _ g' (fun q => ?_)
    subst q
    rcases hrow.2 with ⟨h0, _⟩ | ⟨g2, cap, cur, hv, _, hc, _⟩
    · cases h0
    · cases hv
      rw [hh] at hc; injection hc with hc; injection hc with _ ht; rw [he'] at ht; cases ht
  have keepz : ∀ i (hi : i < es.length), i ≠ n → w'.ownsRow B 3 1 (zV es[i]) es[i].1.zones.length (es[i].1.zones.map (Go.Value.int .i64)) := fun i hi hne => (h.zon i hi).kept hg (by
    rw [zV_own, zV_own]
    cases q : eb es[i] false with
    | none => exact .inl rfl
    | some x => exact .inr fun q2 => hne (h.sep i hi false n hn false x q q2.symm).1)
  have keepv : ∀ i (hi : i < es.length), w'.ownsRow B 3 1 (vV es[i]) es[i].1.variants.length (es[i].1.variants.map (Go.Value.int .i64)) := fun i hi => (h.var i hi).kept hg (by
    rw [zV_own, vV_own]
    cases q : eb es[i] true with
    | none => exact .inl rfl
    | some x => exact .inr fun q2 => by have := (h.sep i hi true n hn false x q q2.symm).2; cases this)
  have hebe : ∀ b, eb e b = if b then eb es[n] true else some g1 := by intro b; rw [he]; cases b <;> rfl
  have hold : ∀ i (hi : i < es.length) b x, eb es[i] b = some x → x < w.heap.size := by
    intro i hi b x q
    cases b
    · exact ((h.zon i hi).lt x (by rw [zV_own]; exact q)).2
    · exact ((h.var i hi).lt x (by rw [vV_own]; exact q)).2
  have hg1 : ∀ i (hi : i < es.length) b, eb es[i] b = some g1 → i = n ∧ b = false := by
    intro i hi b q
    rcases hl with hl | hl
    · rw [zV_own] at hl; exact h.sep i hi b n hn false g1 q hl
    · exact absurd (hold i hi b g1 q) (by omega)
  refine ⟨?_, fun i hi => ?_, fun i hi => ?_, fun i hi b j hj b' x q1 q2 => ?_⟩
  · have := (hrow.stored (n * 5) (zV e)).1
    rw [List.length_set, flatMap_set1 es n e 0 (zV e) hn (by omega) henc]
    exact this
  · rw [getE_set]
    have hi' : i < es.length := by simpa using hi
    by_cases q : n = i
    · subst q
      rw [if_pos rfl]
      have : w'.ownsRow B 3 1 (zV e) e.1.zones.length (e.1.zones.map (Go.Value.int .i64)) := by rw [hzv, he]; simpa using ho
      exact own_heap this fun g' cs _ hh => hg3 g' cs 3 rfl hh
    · rw [if_neg q]
      exact own_heap (keepz i hi' (fun e => q e.symm)) fun g' cs _ hh => hg3 g' cs 3 rfl hh
  · rw [getE_set]
    have hi' : i < es.length := by simpa using hi
    by_cases q : n = i
    · subst q
      rw [if_pos rfl, hvv.1, hvv.2]
      exact own_heap (keepv n hi') fun g' cs _ hh => hg3 g' cs 3 rfl hh
    · rw [if_neg q]
      exact own_heap (keepv i hi') fun g' cs _ hh => hg3 g' cs 3 rfl hh
  · have hi' : i < es.length := by simpa using hi
    have hj' : j < es.length := by simpa using hj
    rw [getE_set] at q1 q2
    by_cases p1 : n = i
    · subst p1
      rw [if_pos rfl, hebe] at q1
      by_cases p2 : n = j
      · subst p2
        rw [if_pos rfl, hebe] at q2
        refine ⟨rfl, ?_⟩
        cases b <;> cases b'
        · rfl
        · simp only [Bool.false_eq_true, if_false, if_true] at q1 q2
          cases q1
          have := (hg1 n hn true q2).2
          cases this
        · simp only [Bool.false_eq_true, if_false, if_true] at q1 q2
          cases q2
          have := (hg1 n hn true q1).2
          cases this
        · rfl
      · rw [if_neg p2] at q2
        cases b
        · simp only [Bool.false_eq_true, if_false] at q1
          cases q1
          exact absurd (hg1 j hj' b' q2).1.symm p2
        · simp only [if_true] at q1
          have := h.sep n hn true j hj' b' x q1 q2
          exact absurd this.1 p2
    · rw [if_neg p1] at q1
      by_cases p2 : n = j
      · subst p2
        rw [if_pos rfl, hebe] at q2
        cases b'
        · simp only [Bool.false_eq_true, if_false] at q2
          cases q2
          exact absurd (hg1 i hi' b q1).1.symm p1
        · simp only [if_true] at q2
          have := h.sep i hi' b n hn true x q1 q2
          exact absurd this.1.symm p1
      · rw [if_neg p2] at q2
        exact h.sep i hi' b j hj' b' x q1 q2
theorem flat_get : ∀ (es : List EdM) (n j : Nat) (h : n < es.length), j < 5 → (es.flatMap encEd)[n * 5 + j]? = (encEd es[n])[j]?
  | [], n, j, h, _ => by simp at h
  | e0 :: es, 0, j, h, hj => by
    rw [List.flatMap_cons, List.getElem?_append_left (by rw [encEd_len]; omega)]
    simp
  | e0 :: es, n + 1, j, h, hj => by
    rw [List.flatMap_cons, List.getElem?_append_right (by rw [encEd_len]; omega), encEd_len, show (n + 1) * 5 + j - 5 = n * 5 + j by omega]
    simpa using flat_get es n j (by simpa using h) hj
theorem flat_len (es : List EdM) : (es.flatMap encEd).length = es.length * 5 := length_flat encEd_len es
theorem EdsAt.at_ {w : Go.World} {B g c : Nat} {es : List EdM} (h : EdsAt w B (.slice (some ⟨g, 0, none⟩) es.length c) es) {n : Nat} (hn : n < es.length) (j : Nat) (hj : j < 5) :
    w.cell? ⟨g, n * 5 + j, none⟩ = (encEd es[n])[j]? ∧ w.frozen? ⟨g, n * 5 + j, none⟩ = false := by
  refine ⟨?_, h.row.frozenAt _⟩
  have := h.row.cellAt (n * 5 + j) (by omega)
  rw [this, flat_get es n j hn hj]
theorem EdsAt.atm {w : Go.World} {B g c m : Nat} {es : List EdM} (h : EdsAt w B (.slice (some ⟨g, 0, none⟩) m c) es) (hm : m = es.length) {n : Nat} (hn : n < es.length) (j : Nat) (hj : j < 5) :
    w.cell? ⟨g, n * 5 + j, none⟩ = (encEd es[n])[j]? ∧ w.frozen? ⟨g, n * 5 + j, none⟩ = false := by subst hm; exact h.at_ hn j hj
theorem EdsAt.putm {w : Go.World} {B g c m n : Nat} {es : List EdM} (h : EdsAt w B (.slice (some ⟨g, 0, none⟩) m c) es) (hm : m = es.length) (hn : n < es.length) (e : EdM) (j : Nat) (u : Go.Value) (hj : j < 5) (he : encEd e = (encEd es[n]).set j u)
    (h1 : e.1.zones = es[n].1.zones ∧ e.1.variants = es[n].1.variants ∧ e.2 = es[n].2) : EdsAt (w.setCell ⟨g, n * 5 + j, none⟩ u) B (.slice (some ⟨g, 0, none⟩) m c) (es.set n e) := by subst hm; exact h.put hn e j u hj he h1
theorem EdsAt.base {w : Go.World} {B B' : Nat} {v : Go.Value} {es : List EdM} (h : EdsAt w B v es) (hB : B' ≤ B) : EdsAt w B' v es :=
  ⟨Go.World.ownsRow.mono h.row hB, fun i hi => Go.World.ownsRow.mono (h.zon i hi) hB, fun i hi => Go.World.ownsRow.mono (h.var i hi) hB, h.sep⟩
end Go.Ed
