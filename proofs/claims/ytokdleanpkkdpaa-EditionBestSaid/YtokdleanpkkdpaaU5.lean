/- Contract of the reference's right; conditions: a list in memory. -/
import Derived.Test.YtokdleanpkkdpaaD6
import Derived.Test.YtokdleanpkkdpaaE3
import Derived.Test.YtokdleanpkkdpaaSpecD
set_option linter.unusedSimpArgs false
set_option linter.unusedVariables false
namespace Go.Ed
open Go.Fh Go.RowKit Go.Proofs.Ytokdleanpkkdpaa
structure RdsAt (w : Go.World) (B : Nat) (v : Go.Value) (es : List EdM) : Prop where
  row : w.ownsRow B 98 5 v es.length (es.flatMap encEd)
  zon : ∀ i (h : i < es.length), w.ownsRow B 3 1 (zV es[i]) es[i].1.zones.length (es[i].1.zones.map (Go.Value.int .i64))
  var : ∀ i (h : i < es.length), w.ownsRow B 3 1 (vV es[i]) es[i].1.variants.length (es[i].1.variants.map (Go.Value.int .i64))
  sep : ∀ i (h : i < es.length) b j (h' : j < es.length) c g, eb es[i] b = some g → eb es[j] c = some g → i = j ∧ b = c
theorem RdsAt.nil (w : Go.World) (B : Nat) : RdsAt w B (.slice none 0 0) [] :=
  ⟨Go.World.ownsRow_nil _ _ _ _, fun i h => absurd h (by simp), fun i h => absurd h (by simp), fun i h => absurd h (by simp)⟩
theorem RdsAt.frame {w w' : Go.World} {B : Nat} {v : Go.Value} {es : List EdM} (h : RdsAt w B v es) (hf : ∀ (g : Nat) cs e, e = 3 ∨ e = 98 → w.heap[g]? = some (Go.Obj.cells cs e (0, 0)) → w'.heap[g]? = w.heap[g]?) : RdsAt w' B v es :=
  ⟨own_heap h.row fun g cs _ hg => hf g cs 98 (.inr rfl) hg, fun i hi => own_heap (h.zon i hi) fun g cs _ hg => hf g cs 3 (.inl rfl) hg, fun i hi => own_heap (h.var i hi) fun g cs _ hg => hf g cs 3 (.inl rfl) hg, h.sep⟩
theorem RdsAt.alloc {w : Go.World} {B : Nat} {v : Go.Value} {es : List EdM} (h : RdsAt w B v es) (o : Go.Obj) : RdsAt (w.alloc o) B v es := h.frame fun g _ _ _ hg => Below.heap_alloc w o g (lt_of_heap hg)
theorem RdsAt.below {w w' : Go.World} {B : Nat} {v : Go.Value} {es : List EdM} (h : RdsAt w B v es) (hb : Below w.heap.size w w') : RdsAt w' B v es := h.frame fun g _ _ _ hg => hb.block g (lt_of_heap hg)
theorem RdsAt.grown {w w' : Go.World} {B : Nat} {v : Go.Value} {es : List EdM} {b : Nat} (h : RdsAt w B v es) (hg : w.grownBy w' (some b)) (hb : ∀ cs e, e = 3 ∨ e = 98 → w.heap[b]? ≠ some (Go.Obj.cells cs e (0, 0))) : RdsAt w' B v es :=
  h.frame fun g cs e he hh => hg.block g (lt_of_heap hh) (fun q => by injection q with q; subst q; exact hb cs e he hh)
theorem blk_kindR {w : Go.World} {g : Nat} {t : Go.TypeId} {cs : Array Go.Value} (h : Blk w g t cs) (h3 : t ≠ 3) (h98 : t ≠ 98) : ∀ cs e, e = 3 ∨ e = 98 → w.heap[g]? ≠ some (Go.Obj.cells cs e (0, 0)) := by
  intro cs' e he hh
  unfold Blk at h
  rw [h] at hh
  injection hh with hh
  injection hh with _ ht
  rcases he with rfl | rfl
  · exact h3 ht
  · exact h98 ht
theorem map_kindR {κ ν : Type} {ek : κ → Go.Value} {ev : ν → Go.Value} {w : Go.World} {g : Nat} {m : List (κ × ν)} (h : MapIs ek ev w g m) : ∀ cs e, e = 3 ∨ e = 98 → w.heap[g]? ≠ some (Go.Obj.cells cs e (0, 0)) := by
  intro cs' e he hh
  obtain ⟨es, c, h, _⟩ := h
  rw [h] at hh; cases hh
theorem RdsAt.set_ {w : Go.World} {B : Nat} {v : Go.Value} {es : List EdM} (h : RdsAt w B v es) {g : Nat} {t : Go.TypeId} {cs : Array Go.Value} (hb : Blk w g t cs) (h3 : t ≠ 3) (h98 : t ≠ 98) (i : Nat) (u : Go.Value) : RdsAt (w.setCell ⟨g, i, none⟩ u) B v es :=
  h.frame fun g' cs e he hh => Below.heap_setCell w _ u g' (fun q => by subst q; exact blk_kindR hb h3 h98 cs e he hh)
theorem RdsAt.put {w : Go.World} {B g c n : Nat} {es : List EdM} (h : RdsAt w B (.slice (some ⟨g, 0, none⟩) es.length c) es) (hn : n < es.length) (e : EdM) (j : Nat) (u : Go.Value) (hj : j < 5) (he : encEd e = (encEd es[n]).set j u)
    (h1 : e.1.zones = es[n].1.zones ∧ e.1.variants = es[n].1.variants ∧ e.2 = es[n].2) : RdsAt (w.setCell ⟨g, n * 5 + j, none⟩ u) B (.slice (some ⟨g, 0, none⟩) es.length c) (es.set n e) := by
  have hg : ∀ (g' : Nat) cs e', e' = 3 → w.heap[g']? = some (Go.Obj.cells cs e' (0, 0)) → (w.setCell ⟨g, n * 5 + j, none⟩ u).heap[g']? = w.heap[g']? := by
    intro g' cs e' he' hh
    refine Below.heap_setCell w _ u g' (fun q => ?_)
    subst q
    rcases h.row.2 with ⟨h0, _⟩ | ⟨g2, cap, cur, hv, _, hc, _⟩
    · cases h0
    · cases hv
      rw [hh] at hc; injection hc with hc; injection hc with _ ht; rw [he'] at ht; cases ht
  have hz : ∀ i (hi : i < (es.set n e).length), (zV (es.set n e)[i] = zV (es[i]'(by simpa using hi)) ∧ vV (es.set n e)[i] = vV (es[i]'(by simpa using hi)) ∧ ((es.set n e)[i]).1.zones = (es[i]'(by simpa using hi)).1.zones ∧ ((es.set n e)[i]).1.variants = (es[i]'(by simpa using hi)).1.variants) ∧ ∀ b, eb (es.set n e)[i] b = eb (es[i]'(by simpa using hi)) b := by
    intro i hi
    rw [getE_set]
    by_cases q : n = i
    · subst q; rw [if_pos rfl]; simp [zV, vV, eb, h1.1, h1.2.1, h1.2.2]
    · rw [if_neg q]; simp
  refine ⟨?_, fun i hi => ?_, fun i hi => ?_, fun i hi b i' hi' b' g' q q' => ?_⟩
  · have := (h.row.stored (n * 5 + j) u).1
    rw [List.length_set, flatMap_set1 es n e j u hn hj he]
    exact this
  · rw [(hz i hi).1.1, (hz i hi).1.2.2.1]
    exact own_heap (h.zon i (by simpa using hi)) fun g' cs _ hh => hg g' cs 3 rfl hh
  · rw [(hz i hi).1.2.1, (hz i hi).1.2.2.2]
    exact own_heap (h.var i (by simpa using hi)) fun g' cs _ hh => hg g' cs 3 rfl hh
  · rw [(hz i hi).2] at q
    rw [(hz i' hi').2] at q'
    exact h.sep i (by simpa using hi) b i' (by simpa using hi') b' g' q q'
theorem RdsAt.push {w w' : Go.World} {B H : Nat} {v v' : Go.Value} {es : List EdM} (h : RdsAt w B v es) (e : EdM) (hz : e.1.zones = [] ∧ e.2.z = none ∧ e.2.cz = 0)
    (hv : w.ownsRow H 3 1 (vV e) e.1.variants.length (e.1.variants.map (Go.Value.int .i64))) (hB : B ≤ H) (hH : ∀ i (hi : i < es.length) b g, eb es[i] b = some g → g < H)
    (ho : w'.ownsRow B 98 5 v' (es.length + 1) (es.flatMap encEd ++ encEd e)) (hg : w.grownBy w' v.ownBlock) : RdsAt w' B v' (es ++ [e]) := by
  have hne : ∀ {n : Nat} {u : Go.Value} {xs : List Go.Value} {b' : Nat}, w.ownsRow b' 3 1 u n xs → w'.ownsRow b' 3 1 u n xs := fun hr => hr.kept hg (own_own_ne hr h.row (by decide))
  have hget : ∀ i (hi : i < (es ++ [e]).length), (∃ h' : i < es.length, (es ++ [e])[i] = es[i]) ∨ (i = es.length ∧ (es ++ [e])[i] = e) := by
    intro i hi
    by_cases q : i < es.length
    · exact .inl ⟨q, by rw [List.getElem_append_left q]⟩
    · have : i = es.length := by simp at hi; omega
      subst this; exact .inr ⟨rfl, by simp⟩
  have hnew : ∀ b g, eb e b = some g → b = true ∧ H ≤ g := by
    intro b g q
    cases b
    · simp [eb, hz.2.1] at q
    · refine ⟨rfl, ?_⟩
      have := (hv.lt g (by rw [vV_own]; exact q)).1
      exact this
  refine ⟨by simpa using ho, fun i hi => ?_, fun i hi => ?_, fun i hi b j hj c g q1 q2 => ?_⟩
  · rcases hget i hi with ⟨h', q⟩ | ⟨_, q⟩
    · rw [q]; exact hne (h.zon i h')
    · rw [q]; simp only [zV, hz.1, hz.2.1, hz.2.2]; exact Go.World.ownsRow_nil _ _ _ _
  · rcases hget i hi with ⟨h', q⟩ | ⟨_, q⟩
    · rw [q]; exact hne (h.var i h')
    · rw [q]; exact hne ((show w.ownsRow B 3 1 (vV e) e.1.variants.length (e.1.variants.map (Go.Value.int .i64)) from Go.World.ownsRow.mono hv hB))
  · rcases hget i hi with ⟨hi', p1⟩ | ⟨e1, p1⟩ <;> rcases hget j hj with ⟨hj', p2⟩ | ⟨e2, p2⟩ <;> rw [p1] at q1 <;> rw [p2] at q2
    · exact h.sep i hi' b j hj' c g q1 q2
    · exact absurd (hH i hi' b g q1) (by have := (hnew c g q2).2; omega)
    · exact absurd (hH j hj' c g q2) (by have := (hnew b g q1).2; omega)
    · exact ⟨by omega, by rw [(hnew b g q1).1, (hnew c g q2).1]⟩
theorem RdsAt.addz {w w' : Go.World} {B g c n : Nat} {es : List EdM} (h : RdsAt w B (.slice (some ⟨g, 0, none⟩) es.length c) es) (hn : n < es.length) (k : Int) (g1 cap : Nat)
    (ho : w'.ownsRow B 3 1 (.slice (some ⟨g1, 0, none⟩) (es[n].1.zones.length + 1) cap) (es[n].1.zones.length + 1) (es[n].1.zones.map (Go.Value.int .i64) ++ [.int .i64 k])) (hg : w.grownBy w' (zV es[n]).ownBlock) (hl : (zV es[n]).ownBlock = some g1 ∨ w.heap.size ≤ g1) :
    RdsAt (w'.setCell ⟨g, n * 5, none⟩ (.slice (some ⟨g1, 0, none⟩) (es[n].1.zones.length + 1) cap)) B (.slice (some ⟨g, 0, none⟩) es.length c)
      (es.set n (⟨es[n].1.zones ++ [k], es[n].1.copies, es[n].1.ready, es[n].1.due, es[n].1.variants⟩, ⟨some ⟨g1, 0, none⟩, cap, es[n].2.v, es[n].2.cv⟩)) := by
  obtain ⟨e, he⟩ : ∃ e : EdM, e = (⟨es[n].1.zones ++ [k], es[n].1.copies, es[n].1.ready, es[n].1.due, es[n].1.variants⟩, ⟨some ⟨g1, 0, none⟩, cap, es[n].2.v, es[n].2.cv⟩) := ⟨_, rfl⟩
  rw [← he]
  have hzv : zV e = .slice (some ⟨g1, 0, none⟩) (es[n].1.zones.length + 1) cap := by rw [he]; simp [zV]
  rw [← hzv]
  have hvv : vV e = vV es[n] ∧ e.1.variants = es[n].1.variants := by rw [he]; exact ⟨rfl, rfl⟩
  have henc : encEd e = (encEd es[n]).set 0 (zV e) := by rw [he]; simp [encEd, zV]
  have hrow := h.row.kept hg (own_own_ne h.row (h.zon n hn) (by decide))
  have hg3 : ∀ (g' : Nat) cs e', e' = 3 → w'.heap[g']? = some (Go.Obj.cells cs e' (0, 0)) → (w'.setCell ⟨g, n * 5, none⟩ (zV e)).heap[g']? = w'.heap[g']? := by
    intro g' cs e' he' hh
    refine Below.heap_setCell w' _ _ g' (fun q => ?_)
    subst q
    rcases hrow.2 with ⟨h0, _⟩ | ⟨g2, cap, cur, hv, _, hc, _⟩
    · cases h0
    · cases hv
      rw [hh] at hc; injection hc with hc; injection hc with _ ht; rw [he'] at ht; cases ht
  have keepz : ∀ i (hi : i < es.length), i ≠ n → w'.ownsRow B 3 1 (zV es[i]) es[i].1.zones.length (es[i].1.zones.map (Go.Value.int .i64)) := fun i hi hne => (h.zon i hi).kept hg (by
    rw [zV_own, zV_own]
    cases q : eb es[i] false with
    | none => exact .inl rfl
    | some x => exact .inr fun q2 => hne (h.sep i hi false n hn false x q q2.symm).1)
  have keepv : ∀ i (hi : i < es.length), w'.ownsRow B 3 1 (vV es[i]) es[i].1.variants.length (es[i].1.variants.map (Go.Value.int .i64)) := fun i hi => (h.var i hi).kept hg (by
    rw [zV_own, vV_own]
    cases q : eb es[i] true with
    | none => exact .inl rfl
    | some x => exact .inr fun q2 => by have := (h.sep i hi true n hn false x q q2.symm).2; cases this)
  have hebe : ∀ b, eb e b = if b then eb es[n] true else some g1 := by intro b; rw [he]; cases b <;> rfl
  have hold : ∀ i (hi : i < es.length) b x, eb es[i] b = some x → x < w.heap.size := by
    intro i hi b x q
    cases b
    · exact ((h.zon i hi).lt x (by rw [zV_own]; exact q)).2
    · exact ((h.var i hi).lt x (by rw [vV_own]; exact q)).2
  have hg1 : ∀ i (hi : i < es.length) b, eb es[i] b = some g1 → i = n ∧ b = false := by
    intro i hi b q
    rcases hl with hl | hl
    · rw [zV_own] at hl; exact h.sep i hi b n hn false g1 q hl
    · exact absurd (hold i hi b g1 q) (by omega)
  refine ⟨?_, fun i hi => ?_, fun i hi => ?_, fun i hi b j hj b' x q1 q2 => ?_⟩
  · have := (hrow.stored (n * 5) (zV e)).1
    rw [List.length_set, flatMap_set1 es n e 0 (zV e) hn (by omega) henc]
    exact this
  · rw [getE_set]
    have hi' : i < es.length := by simpa using hi
    by_cases q : n = i
    · subst q
      rw [if_pos rfl]
      have : w'.ownsRow B 3 1 (zV e) e.1.zones.length (e.1.zones.map (Go.Value.int .i64)) := by rw [hzv, he]; simpa using ho
      exact own_heap this fun g' cs _ hh => hg3 g' cs 3 rfl hh
    · rw [if_neg q]
      exact own_heap (keepz i hi' (fun e => q e.symm)) fun g' cs _ hh => hg3 g' cs 3 rfl hh
  · rw [getE_set]
    have hi' : i < es.length := by simpa using hi
    by_cases q : n = i
    · subst q
      rw [if_pos rfl, hvv.1, hvv.2]
      exact own_heap (keepv n hi') fun g' cs _ hh => hg3 g' cs 3 rfl hh
    · rw [if_neg q]
      exact own_heap (keepv i hi') fun g' cs _ hh => hg3 g' cs 3 rfl hh
  · have hi' : i < es.length := by simpa using hi
    have hj' : j < es.length := by simpa using hj
    rw [getE_set] at q1 q2
    by_cases p1 : n = i
    · subst p1
      rw [if_pos rfl, hebe] at q1
      by_cases p2 : n = j
      · subst p2
        rw [if_pos rfl, hebe] at q2
        refine ⟨rfl, ?_⟩
        cases b <;> cases b'
        · rfl
        · simp only [Bool.false_eq_true, if_false, if_true] at q1 q2
          cases q1
          have := (hg1 n hn true q2).2
          cases this
        · simp only [Bool.false_eq_true, if_false, if_true] at q1 q2
          cases q2
          have := (hg1 n hn true q1).2
          cases this
        · rfl
      · rw [if_neg p2] at q2
        cases b
        · simp only [Bool.false_eq_true, if_false] at q1
          cases q1
          exact absurd (hg1 j hj' b' q2).1.symm p2
        · simp only [if_true] at q1
          have := h.sep n hn true j hj' b' x q1 q2
          exact absurd this.1 p2
    · rw [if_neg p1] at q1
      by_cases p2 : n = j
      · subst p2
        rw [if_pos rfl, hebe] at q2
        cases b'
        · simp only [Bool.false_eq_true, if_false] at q2
          cases q2
          exact absurd (hg1 i hi' b q1).1.symm p1
        · simp only [if_true] at q2
          have := h.sep i hi' b n hn true x q1 q2
          exact absurd this.1.symm p1
      · rw [if_neg p2] at q2
        exact h.sep i hi' b j hj' b' x q1 q2
theorem RdsAt.at_ {w : Go.World} {B g c : Nat} {es : List EdM} (h : RdsAt w B (.slice (some ⟨g, 0, none⟩) es.length c) es) {n : Nat} (hn : n < es.length) (j : Nat) (hj : j < 5) :
    w.cell? ⟨g, n * 5 + j, none⟩ = (encEd es[n])[j]? ∧ w.frozen? ⟨g, n * 5 + j, none⟩ = false := by
  refine ⟨?_, h.row.frozenAt _⟩
  have := h.row.cellAt (n * 5 + j) (by omega)
  rw [this, flat_get es n j hn hj]
theorem RdsAt.atm {w : Go.World} {B g c m : Nat} {es : List EdM} (h : RdsAt w B (.slice (some ⟨g, 0, none⟩) m c) es) (hm : m = es.length) {n : Nat} (hn : n < es.length) (j : Nat) (hj : j < 5) :
    w.cell? ⟨g, n * 5 + j, none⟩ = (encEd es[n])[j]? ∧ w.frozen? ⟨g, n * 5 + j, none⟩ = false := by subst hm; exact h.at_ hn j hj
theorem RdsAt.putm {w : Go.World} {B g c m n : Nat} {es : List EdM} (h : RdsAt w B (.slice (some ⟨g, 0, none⟩) m c) es) (hm : m = es.length) (hn : n < es.length) (e : EdM) (j : Nat) (u : Go.Value) (hj : j < 5) (he : encEd e = (encEd es[n]).set j u)
    (h1 : e.1.zones = es[n].1.zones ∧ e.1.variants = es[n].1.variants ∧ e.2 = es[n].2) : RdsAt (w.setCell ⟨g, n * 5 + j, none⟩ u) B (.slice (some ⟨g, 0, none⟩) m c) (es.set n e) := by subst hm; exact h.put hn e j u hj he h1
theorem RdsAt.base {w : Go.World} {B B' : Nat} {v : Go.Value} {es : List EdM} (h : RdsAt w B v es) (hB : B' ≤ B) : RdsAt w B' v es :=
  ⟨Go.World.ownsRow.mono h.row hB, fun i hi => Go.World.ownsRow.mono (h.zon i hi) hB, fun i hi => Go.World.ownsRow.mono (h.var i hi) hB, h.sep⟩

theorem RdsAt.drew {w : Go.World} {B : Nat} {v : Go.Value} {es : List EdM} (h : RdsAt w B v es) : RdsAt w.drew B v es := ⟨h.row, h.zon, h.var, h.sep⟩
theorem RdsAt.old {w : Go.World} {B : Nat} {v : Go.Value} {es : List EdM} (h : RdsAt w B v es) : ∀ i (hi : i < es.length) b g, eb es[i] b = some g → g < w.heap.size := by
  intro i hi b g q
  cases b
  · exact ((h.zon i hi).lt g (by rw [zV_own]; exact q)).2
  · exact ((h.var i hi).lt g (by rw [vV_own]; exact q)).2
end Go.Ed
namespace Go.Proofs.Ytokdleanpkkdpaa
open Go.RowKit Go.Fh Go.Ed
set_option maxHeartbeats 1000000 in
theorem copyInts_any (A : Option Addr) (c : Nat) (l : List Int) (w : World) (hl : l.length * 8 ≤ 140737488355328) (hA : Sl encInt 1 w w.heap.size A l) :
    Calls Try.prog 124 #[.slice A l.length c] w fun e w' => ∃ A' c', e = .returned (.slice A' l.length c') ∧ w'.ownsRow w.heap.size 3 1 (.slice A' l.length c') l.length (l.map (Value.int .i64)) ∧ Below w.heap.size w w' := by
  obtain ⟨i0, hi0, hz0, hz1, hz2⟩ := info_parts infoInt
  rcases A with _ | ad
  · have h0 := hA.none_nil
    subst h0
    go_enter Try.func124, Try.ntmps124
    go_wp2
    go_ret
    exact ⟨none, 0, rfl, World.ownsRow_nil _ _ _ _, Below.refl _ _⟩
  · have hs2 : ∀ x : Int, (encInt x).length = 1 := fun _ => rfl
    have hfl := length_flat (enc := encInt) (size := 1) hs2 l
    have hne : ∀ u ∈ l.flatMap encInt, u.oneCell' = true := by
      intro u hu; obtain ⟨x, _, hx⟩ := List.mem_flatMap.1 hu; simp [encInt] at hx; subst hx; rfl
    have hcells : ∀ (W : World), Below w.heap.size w W → ∀ j u, (l.flatMap encInt)[j]? = some u → W.cell? (ad.add j) = some u := fun W hb => (hA.below hb).flat hs2
    have hmap : l.flatMap encInt = l.map (Value.int .i64) := flat_int l
    obtain ⟨fl, hflat⟩ : ∃ fl, fl = l.flatMap encInt := ⟨_, rfl⟩
    rw [← hflat] at hfl hne hcells hmap
    have HF := Lib.hid hfl
    have HFL := Lib.hid hmap
    clear hfl hflat hmap
    have hb0 := Below.refl w.heap.size w
    have hown : w.ownsRow w.heap.size 3 1 (.slice none 0 0) 0 [] := World.ownsRow_nil _ _ _ _
    go_enter Try.func124, Try.ntmps124
    go_wp2_with (at_builtin; refine wpList_append_own _ rfl (.tmp 4) (.tmp 5) 22 rfl w.heap.size 3 i0 _ 1 8 Try.underlying22 hi0 hz0 hz1 hz2 rfl (by decide) _ _ _ rfl hown ad l.length c fl rfl HF.out (hcells _ hb0) hne (by simp only [maxLen]; omega) (by omega) (by simp) ?_; intro v' w1 hown1 hg1 _)
    go_ret
    obtain ⟨A', c', rfl⟩ := own_shape hown1
    simp only [Nat.zero_add, List.nil_append] at hown1 ⊢
    refine ⟨A', c', rfl, by rw [← HFL.out]; exact hown1, hb0.grown hg1 (by simp) (fun k hk => ?_)⟩
    cases hk
end Go.Proofs.Ytokdleanpkkdpaa
namespace Go.Ed
open Go.Fh Go.RowKit Go.Proofs.Ytokdleanpkkdpaa
/-- a title whose parts are right, whatever the number of its editions -/
structure RgtT (t : TitD) : Prop where
  ok : OkT t
  c0 : 1 ≤ t.colours.length
  z1 : t.zones.length ≤ 12
  r1 : t.ready.length ≤ 300
  ez : ∀ k, k < t.zones.length → errZ t (t.zones.getD k ⟨0, 0, []⟩) = 0
  er : ∀ k, k < t.ready.length → errR t k = 0
theorem ChkOk.rgt {t : TitD} (h : ChkOk t) : RgtT t := ⟨h.ok, h.c0, h.z1, h.r1, h.ez, h.er⟩
theorem edsN_bdW {t : TitD} (h : RgtT t) : ∀ k, k ≤ t.zones.length → ∀ e ∈ edsN t k, EdB t k e := by
  intro k
  induction k with
  | zero => intro _ e he; simp [edsN] at he
  | succ k ih =>
    intro hk
    have hz := errZ_ok (h.ez k (by omega))
    refine addZ_step (P := EdB t k) (Q := EdB t (k + 1)) (ih (by omega)) ?_ ?_ ?_
    · intro e b
      exact ⟨b.c0, by have := b.c1; omega, b.d0, b.d1, b.r, by have := b.zn; omega, b.z1, fun z hz => by have := b.zz z hz; omega, b.vn, b.vv⟩
    · intro hc
      exact ⟨by show 1 ≤ (t.zones.getD k ⟨0, 0, []⟩).copies; omega, by show (t.zones.getD k ⟨0, 0, []⟩).copies ≤ _; omega, by show 0 ≤ min 86400 (t.zones.getD k ⟨0, 0, []⟩).due; omega, by show min 86400 (t.zones.getD k ⟨0, 0, []⟩).due ≤ _; omega, rfl, by simp, by simp, by simp; omega, hz.2.2.1, hz.2.2.2⟩
    · intro e b hv
      refine ⟨by have := b.c0; show 1 ≤ e.copies + _; omega, by have := b.c1; show e.copies + _ ≤ _; omega, by have := b.d0; show 0 ≤ min e.due _; omega, by have := b.d1; show min e.due _ ≤ _; omega, b.r, by have := b.zn; simp; omega, by simp, ?_, b.vn, b.vv⟩
      intro z hz
      simp only [List.mem_append, List.mem_singleton] at hz
      rcases hz with hz | rfl
      · have := b.zz z hz; omega
      · omega
/-- what a search of so many editions has found -/
def FndE (es : List EdM) (va : List Int) (q : Nat) (z : Int) : Prop := (z = -1 ∧ ∀ i (h : i < es.length), i < q → es[i].1.variants ≠ va) ∨ ∃ n : Nat, ∃ h : n < es.length, z = n ∧ es[n].1.variants = va
theorem FndE.yes {es : List EdM} {va : List Int} {q : Nat} (h : q < es.length) (hv : es[q].1.variants = va) : FndE es va (q + 1) q := .inr ⟨q, h, rfl, hv⟩
theorem FndE.no {es : List EdM} {va : List Int} {q : Nat} {z : Int} (hf : FndE es va q z) (h : q < es.length) (hv : es[q].1.variants ≠ va) : FndE es va (q + 1) z := by
  rcases hf with ⟨rfl, h0⟩ | h0
  · refine .inl ⟨rfl, fun i hi hq => ?_⟩
    by_cases e : i = q
    · subst e; exact hv
    · exact h0 i hi (by omega)
  · exact .inr h0
/-- an edition with the second by so many of the list -/
def withQ (t : TitD) (e : EdM) (q : Nat) : EdM := (⟨e.1.zones, e.1.copies, readyN t.ready e.1.variants q, e.1.due, e.1.variants⟩, e.2)
theorem withQ_0 {t : TitD} {e : EdM} (h : e.1.ready = 0) : withQ t e 0 = e := by
  obtain ⟨⟨a, b, c, d, v⟩, y⟩ := e
  simp only at h
  subst h
  rfl
end Go.Ed
namespace Go.Proofs.Ytokdleanpkkdpaa
open Go.RowKit Go.Fh Go.Ed
theorem infoRed : (Try.prog.info? 98).map (fun i => (i.zero, i.size, i.bytes)) = some (some (.agg #[.slice none 0 0, .int .i64 0, .int .i64 0, .int .i64 0, .slice none 0 0]), 5, 72) := by kernel_rfl
set_option maxRecDepth 20000 in
set_option maxHeartbeats 8000000 in
theorem reditions_any (t : TitD) (x : TA) (zs : List ZonM) (w : World) (hs : Sizes t) (hT : TitAt w w.heap.size t x zs) (hr : RgtT t) :
    Calls Try.prog 96 #[.agg (titV t x)] w fun e w' => ∃ (v : Value) (es : List EdM), e = .returned v ∧ RdsAt w' w.heap.size v es ∧ es.map (·.1) = edsR t ∧ Below w.heap.size w w' := by
  obtain ⟨w1, hw1⟩ : ∃ W, W = w.alloc (.cells (titV t x) 88) := ⟨_, rfl⟩
  have hb1 : Below w.heap.size w w1 := by rw [hw1]; exact (Below.refl _ _).alloc (Nat.le_refl _) _
  obtain ⟨gT, hgT⟩ : ∃ g, g = w.heap.size := ⟨_, rfl⟩
  have kT : Blk w1 gT 88 (titV t x) := by rw [hw1, hgT]; exact Blk.new _ _ _
  have hT1 := (hT.below hb1).mono hb1.size
  have hgl : gT < w1.heap.size := kT.lt
  have s3 := hs.s3
  have HT1 := Lib.hid hT1
  have HB1 := Lib.hid hb1
  have HW1 := Lib.hid hw1
  have HGT := Lib.hid hgT
  have KT := Lib.hid kT
  have HS := Lib.hid hs
  have HK0 := Lib.hid hr
  clear hb1 hw1 hgT kT hT1 hs hT hr
  unfold titV at *
  go_enter Try.func96, Try.ntmps96
  go_upto_region 1 with fail
  rw [← HW1.out, ← HGT.out]
  go_wp2_with fail
  go_loopw [4, 3] (fun i o wr => ∃ (k : Nat) (es : List EdM) (A : Option Addr) (c : Nat), k ≤ t.zones.length ∧ i = .int .i64 k ∧ o = .slice A es.length c ∧ Hid (es.map (·.1) = edsN t k) ∧ Hid (RdsAt wr w1.heap.size (.slice A es.length c) es) ∧ Hid (Below w1.heap.size w1 wr)) (fun i _ _ => t.zones.length - (intOf i).toNat)
  case atStart => exact ⟨0, [], none, 0, Nat.zero_le _, rfl, rfl, rfl, RdsAt.nil _ _, Below.refl _ _⟩
  case round =>
    obtain ⟨k, es, A, c, hk, rfl, rfl, HE, HEA, HW⟩ := hrel
    have hgr : gT < wr.heap.size := Nat.lt_of_lt_of_le hgl HW.out.size
    have kr := KT.out.below HW.out hgl
    have r2 := kr.cell 2
    simp at r2
    by_cases hlt : k < t.zones.length
    · skip
      have hz : k < zs.length := by rw [HT1.out.zlen]; exact hlt
      obtain ⟨zb, zo, hxz, hzb, c0, c1, c2⟩ := Sl.atZon ((HT1.out.below HW.out).cZ) hz
      have hva := HT1.out.cV k hz
      have hzg := HT1.out.zget hz
      have hok := errZ_ok (HK0.out.ez k hlt)
      rw [hzg] at hok
      have heds : edsN t (k + 1) = addZ (edsN t k) k (t.zones.getD k ⟨0, 0, []⟩) := rfl
      rw [hzg] at heds
      obtain ⟨⟨⟨cp, du, va⟩, vA, vc⟩, hzk⟩ : ∃ z, z = zs[k] := ⟨_, rfl⟩
      rw [← hzk] at c0 c1 c2 hva hzg hok heds
      dsimp only at c0 c1 c2 hva hzg hok heds
      have HVA := Lib.hid (fun W (hb : Below w1.heap.size w1 W) => (hva.below hb).mono hb.size)
      have HEDS := Lib.hid heds
      have HOK := Lib.hid hok
      obtain ⟨wz, hwz⟩ : ∃ W, W = wr.alloc (.cells #[.int .i64 cp, .int .i64 du, .slice vA va.length vc] 160) := ⟨_, rfl⟩
      obtain ⟨gZ, hgZ⟩ : ∃ g, g = wr.heap.size := ⟨_, rfl⟩
      have kz : Blk wz gZ 160 #[.int .i64 cp, .int .i64 du, .slice vA va.length vc] := by rw [hwz, hgZ]; exact Blk.new _ _ _
      have HWZ1 := Lib.hid (show Below w1.heap.size w1 wz by rw [hwz]; exact HW.out.alloc HW.out.size _)
      have HEZ := Lib.hid (show RdsAt wz w1.heap.size (.slice A es.length c) es by rw [hwz]; exact HEA.out.alloc _)
      have q0 := kz.cell 0
      have q2 := kz.cell 2
      simp at q0 q2
      have hgz : gZ < wz.heap.size := kz.lt
      have HWZ := Lib.hid hwz
      have HGZ := Lib.hid hgZ
      have KZ := Lib.hid kz
      have HZK := Lib.hid hzk
      rw [hxz] at r2
      clear hwz hgZ kz hzg hzk hva hxz heds hok kr
      by_cases hcp : cp = 0
      · skip
        subst hcp
        go_upto_region 6 with fail
        rw [← HWZ.out, ← HGZ.out]
        go_wp2_with fail
        go_roundw
        case rel =>
          refine ⟨k + 1, es, A, c, by omega, by go_num, rfl, ?_, HEZ.out, HWZ1.out⟩
          exact (show es.map (·.1) = edsN t (k + 1) by rw [HEDS.out, HE.out]; simp [addZ])
        case measure => simp [intOf]; omega
      · skip
        have hv64 : va.length ≤ 64 := by rw [HOK.out.2.2.1]; exact HK0.out.ok.c1
        have ht1 : (cp == 0) = false := by simpa using hcp
        have HCP := Lib.hid hcp
        clear hcp
        have hel : es.length = (edsN t k).length := by rw [← HE.out]; simp
        have hel12 : es.length ≤ 12 := by rw [hel]; exact Nat.le_trans (edsN_len t k) (Nat.le_trans hk HK0.out.z1)
        have HEL := Lib.hid hel
        clear hel
        go_upto_region 6 with fail
        rw [← HWZ.out, ← HGZ.out]
        go_wp2_with fail
        clear r2 c0 c1 c2
        have HVL := Lib.hid (fun q (h : q < es.length) => show es[q].1.variants.length ≤ 64 from by
          have := (edsN_bdW HK0.out k hk es[q].1 (by rw [← HE.out]; exact List.mem_map.2 ⟨_, List.getElem_mem h, rfl⟩)).vn
          rw [this]; exact HK0.out.ok.c1)
        go_loopw [7, 6] (fun j a wi => ∃ (q : Nat) (z : Int), q ≤ es.length ∧ j = .int .i64 q ∧ a = .int .i64 z ∧ Hid (FndE es va q z) ∧ Hid (Below wz.heap.size wz wi)) (fun j _ _ => es.length - (intOf j).toNat)
        case atStart => exact ⟨0, -1, Nat.zero_le _, rfl, rfl, Lib.hid (.inl ⟨rfl, fun i _ h => absurd h (by omega)⟩), Below.refl _ _⟩
        case round =>
          obtain ⟨q, z, hq, rfl, rfl, HF, HX⟩ := hrel
          by_cases hlq : q < es.length
          · obtain ⟨gE, cE, hve, _, _⟩ := HEZ.out.row.form (by omega)
            injection hve with hA _ hc
            subst hA hc
            have HEX := Lib.hid (fun W (hb : Below wr.heap.size wr W) => HEZ.out.below (HX.out.trans (hb.mono HX.out.size)))
            have SB := Lib.hid (show ∀ W, Below wr.heap.size wr W → W.cell? ⟨gE, q * 5 + 4, none⟩ = some (.slice es[q].2.v es[q].1.variants.length es[q].2.cv) ∧ W.cell? ⟨gZ, 2, none⟩ = some (.slice vA va.length vc) from fun W hb =>
              ⟨by rw [((HEX.out W hb).at_ hlq 4 (by omega)).1]; rfl, ((KZ.out.below HX.out hgz).below hb (Nat.lt_of_lt_of_le hgz HX.out.size)).cell 2⟩)
            have HSA := Lib.hid (fun W (hb : Below wr.heap.size wr W) => sameInts_any es[q].2.v vA es[q].2.cv vc es[q].1.variants va W (by have := HVL.out q hlq; omega) (by omega) (own_sl ((HEX.out W hb).var q hlq)) (HVA.out W (HWZ1.out.trans ((HX.out.trans (hb.mono HX.out.size)).mono HWZ1.out.size))))
            have i0 : (0 : Int) ≤ (q : Int) := by omega
            have i1 : (q : Int) < (es.length : Int) := by omega
            obtain ⟨b0, hb0⟩ : ∃ b, b = decide (es[q].1.variants = va) := ⟨_, rfl⟩
            rw [← hb0] at HSA
            have HB0 := Lib.hid hb0
            obtain ⟨ea, hea⟩ : ∃ e, e = es[q].2 := ⟨_, rfl⟩
            obtain ⟨el, hel⟩ : ∃ e, e = es[q].1.variants.length := ⟨_, rfl⟩
            rw [← hea, ← hel] at SB HSA
            clear hb0 hea hel q0 q2
            obtain ⟨z0, z1⟩ := SB.out wr (Below.refl _ _)
            go_upto_region 11 with fail
            go_region_held3 (fun W' => W'.cell? ⟨gE, q * 5 + 4, none⟩ = some (.slice ea.v el ea.cv) ∧ W'.cell? ⟨gZ, 2, none⟩ = some (.slice vA va.length vc))
              ((refine SB.out _ ?_; (repeat (first | exact Below.refl _ _ | exact HBE.out | refine Below.drew ?_)); done))
              ((go_at_call 106; refine (HSA.out _ (by repeat (first | exact Below.refl _ _ | refine Below.drew ?_))).mono ?_; rintro e wE ⟨rfl, hb⟩; have HBE := Lib.hid (((Below.refl wr.heap.size wr).drew).trans hb); clear hb))
            all_goals
              have HXE := Lib.hid (HX.out.trans (HBE.out.mono HX.out.size))
              rcases b0 with _ | _
              · go_wp2_with fail
                go_roundw
                case rel => exact ⟨q + 1, z, by omega, by go_num, rfl, HF.out.no hlq (by have := HB0.out; simpa using this), HXE.out⟩
                case measure => simp [intOf]; omega
              · go_wp2_with fail
                go_roundw
                case rel => exact ⟨q + 1, q, by omega, by go_num, rfl, FndE.yes hlq (by have := HB0.out; simpa using this), HXE.out⟩
                case measure => simp [intOf]; omega
          · obtain rfl : q = es.length := by omega
            have HXZ := Lib.hid (HWZ1.out.trans (HX.out.mono HWZ1.out.size))
            have HER := Lib.hid (HEZ.out.below HX.out)
            have HZR := Lib.hid (KZ.out.below HX.out hgz)
            have hgzr := HZR.out.lt
            have q2r := HZR.out.cell 2
            simp at q2r
            have hgl2 : w1.heap.size ≤ wr.heap.size := HXZ.out.size
            clear q0 q2
            go_upto_if 43 with fail
            go_cut [6, 3] (fun p o wx => ∃ (n : Nat) (es1 : List EdM) (g1 c1 : Nat), p = .int .i64 n ∧ o = .slice (some ⟨g1, 0, none⟩) es1.length c1 ∧ Hid (∃ h : n < es1.length, es1[n].1.variants = va ∧ es1.map (·.1) = preZ (edsN t k) ⟨cp, du, va⟩) ∧ Hid (RdsAt wx w1.heap.size (.slice (some ⟨g1, 0, none⟩) es1.length c1) es1) ∧ Hid (Blk wx gZ 160 #[.int .i64 cp, .int .i64 du, .slice vA va.length vc]) ∧ Hid (Below w1.heap.size w1 wx))
            case first =>
              skip
              rcases HF.out with ⟨rfl, hno⟩ | ⟨n, hn, rfl, hv⟩
              · skip
                have hpz : preZ (edsN t k) ⟨cp, du, va⟩ = edsN t k ++ [⟨[], 0, 0, 86400, va⟩] := by
                  rw [preZ_none]
                  intro h
                  obtain ⟨e, he, hq⟩ := List.mem_map.1 h
                  rw [← HE.out] at he
                  obtain ⟨m, hm, rfl⟩ := List.mem_map.1 he
                  obtain ⟨i, hi, rfl⟩ := List.getElem_of_mem hm
                  exact hno i hi hi hq
                have HPZ := Lib.hid hpz
                obtain ⟨i0, hi, hz0, hz1, hz2⟩ := info_parts infoRed
                have HI := Lib.hid hi
                have hva64 : va.length * 8 ≤ 140737488355328 := by omega
                have hm1 : es.length + 1 ≤ maxLen := by simp only [maxLen]; omega
                have hm2 : (es.length + 1) * 72 ≤ 140737488355328 := by omega
                have HAP := Lib.hid (show ∀ (W w9 : World), Below wr.heap.size wr W → W.grownBy w9 (Value.slice A es.length c).ownBlock → Blk w9 gZ 160 #[.int .i64 cp, .int .i64 du, .slice vA va.length vc] ∧ Below w1.heap.size w1 w9 from fun W w9 hb hg => by
                  have er := (HER.out.below hb).row
                  have zz := HZR.out.below hb hgzr
                  refine ⟨zz.grown hg (own_blk_ne er zz (by decide)), (HXZ.out.trans (hb.mono HXZ.out.size)).grown hg (Nat.le_trans HXZ.out.size hb.size) (fun j hj => (er.lt j hj).1)⟩)
                clear hpz hno hi
                go_wp2_with first
                  | (go_at_call 124; refine (copyInts_any vA vc va _ hva64 (HVA.out _ HXZ.out)).mono ?_; rintro e w8 ⟨A', c', rfl, hown8, hb8⟩; have HB8 := Lib.hid hb8; have HO8 := Lib.hid hown8; have hs8 := hb8.size; clear hb8 hown8)
                  | (at_builtin; refine wpList_append_lies _ rfl (.tmp 46) (.tmp 51) 94 rfl w1.heap.size 98 i0 _ 5 72 Try.underlying94 HI.out hz0 hz1 hz2 rfl (by decide) (.slice A es.length c) es.length (es.flatMap encEd) rfl ((HER.out.below HB8.out).row.alloc _) ⟨w8.heap.size, 0, none⟩ 1 1 [.slice none 0 0, .int .i64 0, .int .i64 0, .int .i64 86400, .slice A' va.length c'] rfl rfl (World.news_of_block (cs := #[.slice none 0 0, .int .i64 0, .int .i64 0, .int .i64 86400, .slice A' va.length c']) (t := 98) (fr := (0, 0)) (by show Blk _ _ 98 #[.slice none 0 0, .int .i64 0, .int .i64 0, .int .i64 86400, .slice A' va.length c']; exact Blk.new _ _ _)) (by intro u hu; simp at hu; rcases hu with rfl | rfl | rfl | rfl <;> rfl) (by decide) hm1 hm2 (by simp; omega) (w8.heap.size + 1) (by simp) ?_; intro g9 cap9 w9 hown9 hgrow9 hat9 hlt9; have HG9 := Lib.hid hgrow9; have HO9 := Lib.hid hown9; clear hown9 hgrow9 hat9)
                have h9 := HAP.out _ w9 (HB8.out.alloc HB8.out.size _) HG9.out
                have hpush := RdsAt.push ((HER.out.below HB8.out).alloc _) (⟨[], 0, 0, 86400, va⟩, ⟨none, 0, A', c'⟩) ⟨rfl, rfl, rfl⟩ (HO8.out.alloc _) hgl2 HER.out.old (by simpa [encEd] using HO9.out) HG9.out
                go_meet
                case rel => exact ⟨es.length, es ++ [(⟨[], 0, 0, 86400, va⟩, ⟨none, 0, A', c'⟩)], g9, cap9, rfl, by simp, ⟨by simp, by simp, by rw [HPZ.out, ← HE.out]; simp⟩, Lib.hid (by simpa using hpush), h9.1, h9.2⟩
              · skip
                obtain ⟨gE, cE, hve, _, _⟩ := HEZ.out.row.form (by omega)
                injection hve with hA _ hc
                subst hA hc
                have hpz : es.map (·.1) = preZ (edsN t k) ⟨cp, du, va⟩ := by
                  rw [preZ_any]
                  · exact HE.out
                  · rw [← HE.out]; exact List.mem_map.2 ⟨es[n].1, List.mem_map.2 ⟨_, List.getElem_mem hn, rfl⟩, hv⟩
                have HPZ := Lib.hid (And.intro hv hpz)
                have u0 : decide ((n : Int) < 0) = false := by simp
                clear hv hpz
                go_wp2_with fail
                go_meet
                case rel => exact ⟨n, es, gE, c, rfl, rfl, ⟨hn, HPZ.out.1, HPZ.out.2⟩, HER.out, HZR.out, HXZ.out⟩
            case rest =>
              skip
              obtain ⟨n, es1, g1, c1, rfl, rfl, HN, HE1, HZ1, HW1c⟩ := hcut
              obtain ⟨hn, hvn, hmn⟩ := HN.out
              have HMN := Lib.hid hmn
              have HVN := Lib.hid hvn
              obtain ⟨⟨ed, ad⟩, hen⟩ : ∃ e, e = es1[n] := ⟨_, rfl⟩
              have hmem : ed ∈ preZ (edsN t k) ⟨cp, du, va⟩ := by rw [← hmn]; exact List.mem_map.2 ⟨(ed, ad), by rw [hen]; exact List.getElem_mem hn, rfl⟩
              have hbe : 0 ≤ ed.copies ∧ ed.copies ≤ 1000000 * (k : Int) ∧ ed.zones.length ≤ k := by
                unfold preZ at hmem
                split at hmem
                · have := edsN_bdW HK0.out k (by omega) ed hmem; exact ⟨by have := this.c0; omega, this.c1, this.zn⟩
                · rcases List.mem_append.1 hmem with h | h
                  · have := edsN_bdW HK0.out k (by omega) ed h; exact ⟨by have := this.c0; omega, this.c1, this.zn⟩
                  · simp at h; subst h; simp; omega
              have hl1 : es1.length ≤ 13 := by
                have h1 : es1.length = (preZ (edsN t k) ⟨cp, du, va⟩).length := by rw [← hmn]; simp
                have h2 : (preZ (edsN t k) ⟨cp, du, va⟩).length ≤ (edsN t k).length + 1 := by unfold preZ; split <;> simp
                have := edsN_len t k
                have := HK0.out.z1
                omega
              have hz12 := HK0.out.z1
              have a0 := (HE1.out.at_ hn 0 (by omega))
              rw [← hen] at a0
              simp [encEd] at a0
              obtain ⟨p0, f0⟩ := a0
              have hgz1 := HZ1.out.lt
              have hrow0 := HE1.out.zon n hn
              rw [← hen] at hrow0
              have HROW0 := Lib.hid (show wc.ownsRow w1.heap.size 3 1 (.slice ad.z ed.zones.length ad.cz) ed.zones.length (ed.zones.map (Value.int .i64)) from hrow0)
              obtain ⟨i0, hi, hz0, hz1, hz2⟩ := info_parts infoInt
              have HI := Lib.hid hi
              have HEN := Lib.hid hen
              have hwc := HW1c.out.size
              have hmz : ed.zones.length + 1 ≤ maxLen := by simp only [maxLen]; omega
              have hmy : (ed.zones.length + 1) * 8 ≤ 140737488355328 := by omega
              have j0 : (0 : Int) ≤ (n : Int) := by omega
              have j1 : (n : Int) < (es1.length : Int) := by omega
              have HR8 := Lib.hid (show ∀ w8, (wc.alloc (.cells #[.int .i64 (k : Int)] 3)).grownBy w8 (Value.slice ad.z ed.zones.length ad.cz).ownBlock → w8.ownsRow w1.heap.size 98 5 (.slice (some ⟨g1, 0, none⟩) es1.length c1) es1.length (es1.flatMap encEd) ∧ Blk w8 gZ 160 #[.int .i64 cp, .int .i64 du, .slice vA va.length vc] ∧ Below w1.heap.size w1 w8 from fun w8 hg => by
                have hr := HE1.out.row.alloc (.cells #[.int .i64 (k : Int)] 3)
                have hz := HROW0.out.alloc (.cells #[.int .i64 (k : Int)] 3)
                exact ⟨hr.kept hg (own_own_ne hr hz (by decide)), (HZ1.out.alloc _).grown hg (own_blk_ne hz (HZ1.out.alloc _) (by decide)), (HW1c.out.alloc HW1c.out.size _).grown hg (by have := HW1c.out.size; simp; omega) (fun j hj => (hz.lt j hj).1)⟩)
              clear hvn hmn hen hmem hrow0 hi
              go_wp2_with (at_builtin; refine wpList_append_lies _ rfl (.tmp 60) (.tmp 62) 22 rfl w1.heap.size 3 i0 _ 1 8 Try.underlying22 HI.out hz0 hz1 hz2 rfl (by decide) (.slice ad.z ed.zones.length ad.cz) ed.zones.length (ed.zones.map (Value.int .i64)) rfl (HROW0.out.alloc _) ⟨wc.heap.size, 0, none⟩ 1 1 [.int .i64 (k : Int)] rfl rfl (news_of1 wc 3 #[.int .i64 (k : Int)]) (by intro u hu; simp at hu; subst hu; rfl) (by decide) hmz hmy (by simp; omega) (wc.heap.size + 1) (by simp) ?_; intro g2 cap2 w8 hown8 hgrow8 hat8 hlt8; have HO8 := Lib.hid hown8; have HG8 := Lib.hid hgrow8; have HAT8 := Lib.hid hat8; have h8 := HR8.out w8 hgrow8; have p8 := h8.1.cellAt (n * 5) (by omega); rw [show n * 5 = n * 5 + 0 from rfl, flat_get es1 n 0 hn (by omega), ← HEN.out] at p8; simp [encEd] at p8; have f8 := h8.1.frozenAt (n * 5); have H8 := Lib.hid h8; clear hown8 hgrow8 hat8 h8)
              have hg1z : g1 ≠ gZ := fun e => own_blk_ne H8.out.1 H8.out.2.1 (by decide) (by rw [e]; rfl)
              have hBg1 : w1.heap.size ≤ g1 := (H8.out.1.lt g1 rfl).1
              have ea := RdsAt.addz (HE1.out.alloc (.cells #[.int .i64 (k : Int)] 3)) hn k g2 cap2 (by rw [← HEN.out]; exact HO8.out) (by rw [← HEN.out]; exact HG8.out) (by rw [← HEN.out]; rcases HAT8.out with h | h; (exact .inl h); (exact .inr (by rw [h]; simp)))
              rw [← HEN.out] at ea
              dsimp only at ea
              obtain ⟨e2, he2⟩ : ∃ e2 : EdM, e2 = (⟨ed.zones ++ [(k : Int)], ed.copies, ed.ready, ed.due, ed.variants⟩, ⟨some ⟨g2, 0, none⟩, cap2, ad.v, ad.cv⟩) := ⟨_, rfl⟩
              rw [← he2] at ea
              generalize hwA : World.setCell w8 _ _ = wA at ea ⊢
              have zA : Blk wA gZ 160 #[.int .i64 cp, .int .i64 du, .slice vA va.length vc] := by rw [← hwA]; exact H8.out.2.1.far (by exact hg1z.symm) _
              have bA : Below w1.heap.size w1 wA := by rw [← hwA]; exact H8.out.2.2.setCell (by exact hBg1) _
              have hn2 : n < (es1.set n e2).length := by simpa using hn
              have hg2 : (es1.set n e2)[n] = e2 := by simp
              have y1 := ea.atm (by simp) hn2 1 (by omega)
              rw [hg2, he2] at y1
              simp [encEd] at y1
              obtain ⟨p1, f1⟩ := y1
              have q0 := zA.cell 0
              simp at q0
              have hcpb := HOK.out.1
              have hw1 := IntWalk.i64_in (ed.copies + cp) (by omega)
              have EA := Lib.hid ea
              have ZA := Lib.hid zA
              have BA := Lib.hid bA
              have HG2 := Lib.hid hg2
              have HE2 := Lib.hid he2
              clear ea zA bA hwA hg2 he2 p8 f8 p0 f0
              go_region
              all_goals
                skip
                obtain ⟨e3, he3⟩ : ∃ e3 : EdM, e3 = (⟨ed.zones ++ [(k : Int)], ed.copies + cp, ed.ready, ed.due, ed.variants⟩, ⟨some ⟨g2, 0, none⟩, cap2, ad.v, ad.cv⟩) := ⟨_, rfl⟩
                have eb := (EA.out.putm (by simp) hn2 e3 1 (.int .i64 (ed.copies + cp)) (by omega) (by rw [HG2.out, HE2.out, he3]; simp [encEd]) (by rw [HG2.out, HE2.out, he3]; simp)).drew
                rw [List.set_set] at eb
                have zB := (ZA.out.far (p := ⟨g1, n * 5 + 1, none⟩) (by exact hg1z.symm) (.int .i64 (ed.copies + cp))).drew
                have bB := (BA.out.setCell (p := ⟨g1, n * 5 + 1, none⟩) (by exact hBg1) (.int .i64 (ed.copies + cp))).drew
                generalize hwB : World.drew _ = wB at eb zB bB ⊢
                have hn3 : n < (es1.set n e3).length := by simpa using hn
                have hg3 : (es1.set n e3)[n] = e3 := by simp
                have y3 := eb.atm (by simp) hn3 3 (by omega)
                rw [hg3, he3] at y3
                simp [encEd] at y3
                obtain ⟨p3, f3⟩ := y3
                have q1 := zB.cell 1
                simp at q1
                have EB := Lib.hid eb
                have ZB := Lib.hid zB
                have BB := Lib.hid bB
                have HG3 := Lib.hid hg3
                have HE3 := Lib.hid he3
                clear eb zB bB hwB hg3 he3 p1 f1 q0 hw1
                have hvd : ed.variants = va := by have := HVN.out; rw [← HEN.out] at this; exact this
                have HFZ := Lib.hid (show ∀ e4 : EdM, e4.1 = ⟨ed.zones ++ [(k : Int)], ed.copies + cp, ed.ready, min ed.due du, ed.variants⟩ → (es1.set n e4).map (·.1) = edsN t (k + 1) from fun e4 he4 => by
                  have hnp : n < (preZ (edsN t k) ⟨cp, du, va⟩).length := by rw [← HMN.out]; simpa using hn
                  have hgp : (preZ (edsN t k) ⟨cp, du, va⟩)[n] = ed := by
                    have : (es1.map (·.1))[n]'(by simpa using hn) = ed := by rw [List.getElem_map, ← HEN.out]
                    simpa only [HMN.out] using this
                  rw [HEDS.out, addZ_at (edsN_nodup t k) (show (⟨cp, du, va⟩ : ZonD).copies ≠ 0 from HCP.out) hnp (by rw [hgp]; exact hvd), hgp, ← HMN.out, List.map_set, he4]
                  rfl)
                clear hvd
                by_cases hdu : du < ed.due
                · have u1 : decide (du < ed.due) = true := by simpa using hdu
                  have HMI := Lib.hid (show min ed.due du = du by omega)
                  clear hdu
                  go_wp2_with fail
                  go_region
                  all_goals
                    go_wp2_with fail
                    go_roundw
                    case rel =>
                      have ec := (EB.out).putm (by simp) hn3 (⟨ed.zones ++ [(k : Int)], ed.copies + cp, ed.ready, du, ed.variants⟩, ⟨some ⟨g2, 0, none⟩, cap2, ad.v, ad.cv⟩) 3 (.int .i64 du) (by omega) (by rw [HG3.out, HE3.out]; simp [encEd]) (by rw [HG3.out, HE3.out]; simp)
                      rw [List.set_set] at ec
                      exact ⟨k + 1, es1.set n (⟨ed.zones ++ [(k : Int)], ed.copies + cp, ed.ready, du, ed.variants⟩, ⟨some ⟨g2, 0, none⟩, cap2, ad.v, ad.cv⟩), some ⟨g1, 0, none⟩, c1, by omega, by go_num, by simp, HFZ.out _ (by rw [HMI.out]), Lib.hid (by simpa using ec.drew), (BB.out.setCell (by exact hBg1) _).drew⟩
                    case measure => simp [intOf]; omega
                · have u1 : decide (du < ed.due) = false := by simpa using hdu
                  have HMI := Lib.hid (show min ed.due du = ed.due by omega)
                  clear hdu
                  go_wp2_with fail
                  go_region
                  all_goals
                    go_wp2_with fail
                    go_roundw
                    case rel =>
                      exact ⟨k + 1, es1.set n e3, some ⟨g1, 0, none⟩, c1, by omega, by go_num, by simp, HFZ.out _ (by rw [HMI.out, HE3.out]), Lib.hid (by simpa using EB.out.drew), BB.out.drew⟩
                    case measure => simp [intOf]; omega
    · obtain rfl : k = t.zones.length := by omega
      have hel : es.length = (edsN t t.zones.length).length := by rw [← HE.out]; simp
      have hel12 : es.length ≤ 12 := by rw [hel]; exact Nat.le_trans (edsN_len t _) HK0.out.z1
      have HBD := Lib.hid (fun i (h : i < es.length) => edsN_bdW HK0.out t.zones.length (Nat.le_refl _) es[i].1 (by rw [← HE.out]; exact List.mem_map.2 ⟨_, List.getElem_mem h, rfl⟩))
      have hr300 := HK0.out.r1
      clear hel kr
      go_wp2_with fail
      clear r2
      go_loopw [9] (fun i wr2 => ∃ j : Nat, j ≤ es.length ∧ i = .int .i64 j ∧ Hid (RdsAt wr2 w1.heap.size (.slice A es.length c) (rdyL t es j)) ∧ Hid (Below w1.heap.size w1 wr2)) (fun i _ => es.length - (intOf i).toNat)
      case atStart => exact ⟨0, Nat.zero_le _, rfl, Lib.hid (by simpa [rdyL] using HEA.out), HW⟩
      case round =>
        obtain ⟨j, hj, rfl, HER, HX⟩ := hrel
        by_cases hlj : j < es.length
        · obtain ⟨gE, cE, hve, _, _⟩ := HEA.out.row.form (by omega)
          injection hve with hA _ hc
          subst hA hc
          have hjr : j < (rdyL t es j).length := by rw [rdyL_len]; exact hlj
          have HST := Lib.hid (show (rdyL t es j).set j (withQ t es[j] 0) = rdyL t es j by
            rw [withQ_0 (HBD.out j hlj).r, ← rdyL_get (t := t) hlj]; simp)
          go_wp2_with fail
          go_loopw [10] (fun i wi => ∃ q : Nat, q ≤ t.ready.length ∧ i = .int .i64 q ∧ Hid (RdsAt wi w1.heap.size (.slice (some ⟨gE, 0, none⟩) es.length c) ((rdyL t es j).set j (withQ t es[j] q))) ∧ Hid (Below w1.heap.size w1 wi)) (fun i _ => t.ready.length - (intOf i).toNat)
          case atStart => exact ⟨0, Nat.zero_le _, rfl, Lib.hid (by rw [HST.out]; exact HER.out), HX⟩
          case round =>
            obtain ⟨q, hq, rfl, HEI, HI⟩ := hrel
            have hgr3 : gT < wr.heap.size := Nat.lt_of_lt_of_le hgl HI.out.size
            have kr := KT.out.below HI.out hgl
            have r3 := kr.cell 3
            simp at r3
            by_cases hlq : q < t.ready.length
            · obtain ⟨rb, ro, hxa, hrb, c0, c1, c2⟩ := ((HT1.out.cR).below HI.out).at3 hlq
              obtain ⟨pg, vr, at_, hq3⟩ : ∃ a b c, t.ready[q] = (a, b, c) := ⟨_, _, _, rfl⟩
              have h0 := HK0.out.er q hlq
              have hgd : t.ready.getD q (0, 0, 0) = (pg, vr, at_) := by rw [← hq3]; simp [hlq]
              unfold errR at h0
              rw [hgd] at h0
              rw [hq3] at c0 c1 c2
              dsimp only at h0 c0 c1 c2
              have hpg : 0 ≤ pg ∧ pg < (t.colours.length : Int) := by
                split at h0
                · cases h0
                · rename_i h1
                  simp only [Bool.or_eq_true, not_or, Bool.not_eq_true, Bool.not_eq_false'] at h1
                  have h2 := inB_iff.1 h1.1
                  omega
              clear h0
              obtain ⟨pn, rfl⟩ : ∃ n : Nat, pg = n := ⟨pg.toNat, by omega⟩
              obtain ⟨⟨ed, ad⟩, hed⟩ : ∃ e, e = es[j] := ⟨_, rfl⟩
              have hbd := HBD.out j hlj
              rw [← hed] at hbd
              have hpn : pn < ed.variants.length := by have := hbd.vn; simp only at this; omega
              obtain ⟨w2, hw2⟩ : ∃ W, W = wr.alloc (.cells #[.int .i64 (pn : Int), .int .i64 vr, .int .i64 at_] 161) := ⟨_, rfl⟩
              obtain ⟨gR, hgR⟩ : ∃ g, g = wr.heap.size := ⟨_, rfl⟩
              have kR : Blk w2 gR 161 #[.int .i64 (pn : Int), .int .i64 vr, .int .i64 at_] := by rw [hw2, hgR]; exact Blk.new wr 161 _
              have hb2 : Below w1.heap.size w1 w2 := by rw [hw2]; exact HI.out.alloc HI.out.size _
              have he2 : RdsAt w2 w1.heap.size (.slice (some ⟨gE, 0, none⟩) es.length c) ((rdyL t es j).set j (withQ t es[j] q)) := by rw [hw2]; exact HEI.out.alloc _
              have hjl : j < ((rdyL t es j).set j (withQ t es[j] q)).length := by simpa using hjr
              have hgj : ((rdyL t es j).set j (withQ t es[j] q))[j] = withQ t es[j] q := by simp
              have a2 := he2.atm (by simp [rdyL_len]) hjl 2 (by omega)
              have a4 := he2.atm (by simp [rdyL_len]) hjl 4 (by omega)
              have hva := own_sl (he2.var j hjl)
              rw [hgj, ← hed] at a2 a4 hva
              simp [encEd, withQ] at a2 a4 hva
              obtain ⟨vb, vo, hvA, hvb, d0⟩ := hva.at1 hpn
              have hvg : ed.variants.getD pn (-1) = ed.variants[pn] := by simp [hpn]
              obtain ⟨vv, hvv⟩ : ∃ v, v = ed.variants[pn] := ⟨_, rfl⟩
              rw [← hvv] at d0 hvg
              obtain ⟨a2, f2⟩ := a2
              obtain ⟨a4, _⟩ := a4
              rw [hvA] at a4
              have hs : readyN t.ready ed.variants (q + 1) = if vv = vr then max (readyN t.ready ed.variants q) at_ else readyN t.ready ed.variants q := by
                conv => lhs; unfold readyN
                rw [hgd]
                simp only [Int.toNat_natCast, hvg]
              obtain ⟨rn, hrn⟩ : ∃ r, r = readyN t.ready ed.variants q := ⟨_, rfl⟩
              rw [← hrn] at hs a2
              have q0 := kR.cell 0
              have q1 := kR.cell 1
              have q2 := kR.cell 2
              simp at q0 q1 q2
              have hgR2 := kR.lt
              have hBE := (he2.row.lt gE rfl).1
              rw [hxa] at r3
              have i0 : (0 : Int) ≤ (j : Int) := by omega
              have i1 : (j : Int) < (es.length : Int) := by omega
              have i2 : (0 : Int) ≤ (pn : Int) := by omega
              have i3 : (pn : Int) < (ed.variants.length : Int) := by omega
              have HNX := Lib.hid (show ∀ r, r = readyN t.ready ed.variants (q + 1) → withQ t es[j] (q + 1) = (⟨ed.zones, ed.copies, r, ed.due, ed.variants⟩, ad) from by intro r hr; rw [← hed, hr]; rfl)
              have HQ := Lib.hid (show withQ t es[j] q = (⟨ed.zones, ed.copies, rn, ed.due, ed.variants⟩, ad) from by rw [← hed, hrn]; rfl)
              have HW2W := Lib.hid hw2
              have HGR := Lib.hid hgR
              have HB2 := Lib.hid hb2
              have HE2 := Lib.hid he2
              have HS := Lib.hid hs
              have HGJ := Lib.hid hgj
              clear hw2 hgR kR hb2 he2 hs hgj hrn hvv hvg hvA hva hed hbd hgd hq3 hxa kr hpg
              by_cases hc1 : vv = vr
              · have t1 : (vv == vr) = true := by simp [hc1]
                by_cases hc2 : rn < at_
                · skip
                  have t2 : decide (rn < at_) = true := by simp [hc2]
                  have HM := Lib.hid (show at_ = readyN t.ready ed.variants (q + 1) by rw [HS.out, if_pos hc1]; omega)
                  clear hc1 hc2
                  go_upto_region 28 with fail
                  rw [← HW2W.out, ← HGR.out]
                  go_region
                  all_goals
                    go_wp2_with fail
                    go_roundw
                    case rel =>
                      have ec := HE2.out.putm (by simp [rdyL_len]) hjl (withQ t es[j] (q + 1)) 2 (.int .i64 at_) (by omega) (by rw [HGJ.out, HQ.out, HNX.out _ HM.out]; simp [encEd]) (by rw [HGJ.out, HQ.out, HNX.out _ HM.out]; simp)
                      rw [List.set_set] at ec
                      exact ⟨q + 1, by omega, by go_num, Lib.hid (by simpa using ec.drew), (HB2.out.setCell (by exact hBE) _).drew⟩
                    case measure => simp [intOf]; omega
                · skip
                  have t2 : decide (rn < at_) = false := by simp; omega
                  have HM := Lib.hid (show rn = readyN t.ready ed.variants (q + 1) by rw [HS.out, if_pos hc1]; omega)
                  clear hc1 hc2
                  go_upto_region 28 with fail
                  rw [← HW2W.out, ← HGR.out]
                  go_region
                  all_goals
                    go_wp2_with fail
                    go_roundw
                    case rel =>
                      exact ⟨q + 1, by omega, by go_num, Lib.hid (by have := HE2.out.drew; rw [HQ.out] at this; rw [HNX.out _ HM.out]; exact this), HB2.out.drew⟩
                    case measure => simp [intOf]; omega
              · skip
                have t1 : (vv == vr) = false := by simp [hc1]
                have HM := Lib.hid (show rn = readyN t.ready ed.variants (q + 1) by rw [HS.out, if_neg hc1])
                clear hc1
                go_upto_region 28 with fail
                rw [← HW2W.out, ← HGR.out]
                go_region
                all_goals
                  go_wp2_with fail
                  go_roundw
                  case rel =>
                    exact ⟨q + 1, by omega, by go_num, Lib.hid (by have := HE2.out.drew; rw [HQ.out] at this; rw [HNX.out _ HM.out]; exact this), HB2.out.drew⟩
                  case measure => simp [intOf]; omega
            · obtain rfl : q = t.ready.length := by omega
              go_wp2_with fail
              go_roundw
              case rel => exact ⟨j + 1, by omega, by go_num, Lib.hid (by rw [rdyL_succ hlj]; exact HEI.out), HI⟩
              case measure => simp [intOf]; omega
        · obtain rfl : j = es.length := by omega
          go_wp2_with fail
          go_ret
          refine ⟨_, es.map (withR t), rfl, ?_, withR_eds HE.out, HB1.out.trans (HX.out.mono HB1.out.size)⟩
          have := HER.out
          rw [rdyL_all] at this
          exact this.base HB1.out.size
end Go.Proofs.Ytokdleanpkkdpaa
namespace Go.Ed
open Go.Fh Go.RowKit Go.Proofs.Ytokdleanpkkdpaa
theorem any_take {α : Type} {p : α → Bool} {l : List α} {q : Nat} (h : q < l.length) (h0 : (l.take q).any p = false) (h1 : p l[q] = false) : (l.take (q + 1)).any p = false := by
  rw [List.take_succ_eq_append_getElem h, List.any_append, h0]
  simp [h1]
theorem any_hit {α : Type} {p : α → Bool} {l : List α} {q : Nat} (h : q < l.length) (h1 : p l[q] = true) : l.any p = true := List.any_eq_true.2 ⟨_, List.getElem_mem h, h1⟩
end Go.Ed
namespace Go.Proofs.Ytokdleanpkkdpaa
open Go.RowKit Go.Fh Go.Ed
set_option maxRecDepth 20000 in
set_option maxHeartbeats 8000000 in
theorem rcheck_any (t : TitD) (x : TA) (zs : List ZonM) (w : World) (hs : Sizes t) (hT : TitAt w w.heap.size t x zs) :
    Calls Try.prog 42 #[.agg (titV t x)] w fun e w' => e = .returned (.int .i64 (checkT t)) ∧ Below w.heap.size w w' := by
  obtain ⟨w1, hw1⟩ : ∃ W, W = w.alloc (.cells (titV t x) 88) := ⟨_, rfl⟩
  have hb1 : Below w.heap.size w w1 := by rw [hw1]; exact (Below.refl _ _).alloc (Nat.le_refl _) _
  obtain ⟨gT, hgT⟩ : ∃ g, g = w.heap.size := ⟨_, rfl⟩
  have kT : Blk w1 gT 88 (titV t x) := by rw [hw1, hgT]; exact Blk.new _ _ _
  have hT1 := (hT.below hb1).mono hb1.size
  have s1 := hs.s1
  have s2 := hs.s2
  have s3 := hs.s3
  have s4 := hs.s4
  have hgl : gT < w1.heap.size := kT.lt
  have r0 := kT.cell 0
  have r1 := kT.cell 1
  have r2 := kT.cell 2
  have r3 := kT.cell 3
  have r4 := kT.cell 4
  have r5 := kT.cell 5
  have r6 := kT.cell 6
  have r7 := kT.cell 7
  simp [titV] at r0 r1 r2 r3 r4 r5 r6 r7
  have HA1 := Lib.hid hT1.cA
  have HBB1 := Lib.hid hT1.cB
  have HT1 := Lib.hid hT1
  have HB1 := Lib.hid hb1
  have HW1 := Lib.hid hw1
  have HGT := Lib.hid hgT
  have KT := Lib.hid kT
  have HS := Lib.hid hs
  clear hb1 hw1 hgT kT hT hT1 hs
  rcases or4 (inB t.colours.length 1 64) (inB t.zones.length 1 12) (!decide (200 < t.ready.length)) true with (h1 | ⟨h1, h2⟩ | ⟨h1, h2, h3⟩ | ⟨_, _, _, h4⟩) | ⟨h1, h2, h3, _⟩
  case inl.inl | inl.inr.inl | inl.inr.inr.inl =>
    all_goals
      have hc : checkT t = 2 := by unfold checkT; rw [if_pos (by simp_all)]
      have HC := Lib.hid hc
      try have h3' : 200 < t.ready.length := by simpa using h3
      clear hc
      unfold titV at *
      go_enter Try.func42, Try.ntmps42
      go_upto_region 1 with fail
      rw [← HW1.out, ← HGT.out]
      go_wp2_with (go_at_call 94; refine (rin_any _ _ _ _).mono ?_; rintro e w' ⟨rfl, rfl⟩)
      go_ret
      exact ⟨ret_int HC.out.symm, HB1.out⟩
  · cases h4
  have h3' : t.ready.length ≤ 200 := by simpa using h3
  have hq1 := inB_iff.1 h1
  have hq2 := inB_iff.1 h2
  have hc0 : checkT t = (if !inB t.start 0 86400 || (!inB t.rate 1 3000 || (!inB t.stop 0 3600 || !inB t.hang 0 3600)) then 6
      else if t.colours.any (fun c => !inB c 1 4) || !pairedB t then 21
      else if firstErr (fun k => errZ t (t.zones.getD k ⟨0, 0, []⟩)) t.zones.length ≠ 0 then firstErr (fun k => errZ t (t.zones.getD k ⟨0, 0, []⟩)) t.zones.length
      else if firstErr (errR t) t.ready.length ≠ 0 then firstErr (errR t) t.ready.length
      else if (edsN t t.zones.length).length = 0 then 4
      else if 7 < (edsN t t.zones.length).length then 8
      else 0) := by unfold checkT; rw [if_neg (by simp [h1, h2, h3'])]
  have HC0 := Lib.hid hc0
  clear hc0 h3
  rcases or4 (inB t.start 0 86400) (inB t.rate 1 3000) (inB t.stop 0 3600) (inB t.hang 0 3600) with (q1 | ⟨q1, q2⟩ | ⟨q1, q2, q3⟩ | ⟨q1, q2, q3, q4⟩) | ⟨q1, q2, q3, q4⟩
  case inl.inl | inl.inr.inl | inl.inr.inr.inl | inl.inr.inr.inr =>
    all_goals
      have hc : checkT t = 6 := by rw [HC0.out, if_pos (by simp_all)]
      have HC := Lib.hid hc
      clear hc
      unfold titV at *
      go_enter Try.func42, Try.ntmps42
      go_upto_region 1 with fail
      rw [← HW1.out, ← HGT.out]
      go_wp2_with (go_at_call 94; refine (rin_any _ _ _ _).mono ?_; rintro e w' ⟨rfl, rfl⟩)
      go_ret
      exact ⟨ret_int HC.out.symm, HB1.out⟩
  have hc0 := HC0.out
  rw [if_neg (by simp [q1, q2, q3, q4])] at hc0
  clear HC0
  have HC0 := Lib.hid hc0
  clear hc0
  have HQ := Lib.hid (And.intro (inB_iff.1 q1) (And.intro (inB_iff.1 q2) (And.intro (inB_iff.1 q3) (inB_iff.1 q4))))
  unfold titV at *
  go_enter Try.func42, Try.ntmps42
  go_upto_region 1 with fail
  rw [← HW1.out, ← HGT.out]
  go_wp2_with (go_at_call 94; refine (rin_any _ _ _ _).mono ?_; rintro e w' ⟨rfl, rfl⟩)
  go_loopw [3] (fun i wr => ∃ k : Nat, k ≤ t.colours.length ∧ i = .int .i64 k ∧ Hid ((t.colours.take k).any (fun c => !inB c 1 4) = false) ∧ w1 = wr) (fun i _ => t.colours.length - (intOf i).toNat)
  case atStart => exact ⟨0, Nat.zero_le _, rfl, rfl, rfl⟩
  case round =>
    obtain ⟨k, hk, rfl, HA, rfl⟩ := hrel
    by_cases hlt : k < t.colours.length
    · obtain ⟨pb, po, hpa, hpb, c0⟩ := HA1.out.at1 hlt
      rw [hpa] at r0
      obtain ⟨b, hb⟩ : ∃ b, b = inB t.colours[k] 1 4 := ⟨_, rfl⟩
      obtain ⟨cv, hcv⟩ : ∃ c, c = t.colours[k] := ⟨_, rfl⟩
      have HCC := Lib.hid (show Calls Try.prog 94 #[.int .i64 cv, .int .i64 1, .int .i64 4] w1 fun e w' => e = .returned (.bool b) ∧ w1 = w' by rw [hb, hcv]; exact rin_any _ _ _ _)
      rw [← hcv] at c0 hb
      have HB := Lib.hid hb
      have HCV := Lib.hid hcv
      clear hb hcv hpa
      rcases b with _ | _
      · have hc : checkT t = 21 := by
          rw [HC0.out, if_pos]
          rw [any_hit hlt (by rw [← HCV.out, ← HB.out]; rfl)]; rfl
        have HC := Lib.hid hc
        clear hc
        go_wp2_with (go_at_call 94; refine HCC.out.mono ?_; rintro e w' ⟨rfl, rfl⟩)
        go_ret
        exact ⟨ret_int HC.out.symm, HB1.out⟩
      · go_wp2_with (go_at_call 94; refine HCC.out.mono ?_; rintro e w' ⟨rfl, rfl⟩)
        go_roundw
        case rel => exact ⟨k + 1, by omega, by go_num, any_take hlt HA.out (by rw [← HCV.out, ← HB.out]; rfl), trivial⟩
        case measure => simp [intOf]; omega
    · obtain rfl : k = t.colours.length := by omega
      have hp1 : t.colours.any (fun c => !inB c 1 4) = false := by have := HA.out; rwa [List.take_length] at this
      have HP1 := Lib.hid hp1
      clear hp1
      cases p2 : pairedB t
      · have HC := Lib.hid (show checkT t = 21 by rw [HC0.out, if_pos (by simp [p2])])
        have HP2 := Lib.hid p2
        clear p2
        go_wp2_with (go_at_call 95; refine (rpairs_any t x _ (by omega) (by omega) HA1.out HBB1.out).mono ?_; rintro e w3 ⟨rfl, hb3⟩; rw [HP2.out]; have HB3 := Lib.hid hb3; clear hb3)
        go_ret
        exact ⟨ret_int HC.out.symm, HB1.out.trans (HB3.out.mono HB1.out.size)⟩
      · have hc0 := HC0.out
        rw [if_neg (by simp [HP1.out, p2])] at hc0
        have HC1 := Lib.hid hc0
        have HP2 := Lib.hid p2
        clear hc0 p2
        go_wp2_with (go_at_call 95; refine (rpairs_any t x _ (by omega) (by omega) HA1.out HBB1.out).mono ?_; rintro e w3 ⟨rfl, hb3⟩; rw [HP2.out]; have HB3 := Lib.hid hb3; clear hb3)
        clear r0 r1 r2 r3 r4 r5 r6 r7
        go_loopw [4] (fun i wr2 => ∃ k : Nat, k ≤ t.zones.length ∧ i = .int .i64 k ∧ Hid (firstErr (fun k => errZ t (t.zones.getD k ⟨0, 0, []⟩)) k = 0) ∧ Hid (Below w1.heap.size w1 wr2)) (fun i _ => t.zones.length - (intOf i).toNat)
        case atStart => exact ⟨0, Nat.zero_le _, rfl, rfl, HB3⟩
        case round =>
          skip
          obtain ⟨k, hk, rfl, HE, HW⟩ := hrel
          have hgr : gT < wr.heap.size := Nat.lt_of_lt_of_le hgl HW.out.size
          have kr := KT.out.below HW.out hgl
          have r2 := kr.cell 2
          simp at r2
          by_cases hlt : k < t.zones.length
          · skip
            have hz : k < zs.length := by rw [HT1.out.zlen]; exact hlt
            obtain ⟨zb, zo, hxz, hzb, c0, c1, c2⟩ := Sl.atZon ((HT1.out.below HW.out).cZ) hz
            have hva := HT1.out.cV k hz
            have hzg := HT1.out.zget hz
            have hzl := HS.out.s5 zs[k].1 (by rw [← HT1.out.zeq]; exact List.mem_map.2 ⟨_, List.getElem_mem hz, rfl⟩)
            obtain ⟨⟨⟨cp, du, va⟩, vA, vc⟩, hzk⟩ : ∃ z, z = zs[k] := ⟨_, rfl⟩
            rw [← hzk] at c0 c1 c2 hva hzg hzl
            dsimp only at c0 c1 c2 hva hzg hzl
            have HVA := Lib.hid (fun W (hb : Below w1.heap.size w1 W) => (hva.below hb).mono hb.size)
            rw [hxz] at r2
            obtain ⟨wz, hwz⟩ : ∃ W, W = wr.alloc (.cells #[.int .i64 cp, .int .i64 du, .slice vA va.length vc] 160) := ⟨_, rfl⟩
            obtain ⟨gZ, hgZ⟩ : ∃ g, g = wr.heap.size := ⟨_, rfl⟩
            have kz : Blk wz gZ 160 #[.int .i64 cp, .int .i64 du, .slice vA va.length vc] := by rw [hwz, hgZ]; exact Blk.new _ _ _
            have HWZ1 := Lib.hid (show Below w1.heap.size w1 wz by rw [hwz]; exact HW.out.alloc HW.out.size _)
            have q0 := kz.cell 0
            have q1 := kz.cell 1
            have q2 := kz.cell 2
            simp at q0 q1 q2
            have hgz : gZ < wz.heap.size := kz.lt
            have z0 := (KT.out.below HWZ1.out hgl).cell 0
            simp at z0
            have HWZ := Lib.hid hwz
            have HGZ := Lib.hid hgZ
            have HZG := Lib.hid hzg
            clear hwz hgZ kz hzg hzk hva hxz kr
            have hstop : errZ t ⟨cp, du, va⟩ ≠ 0 → checkT t = errZ t ⟨cp, du, va⟩ := fun h => by
              have h1 := firstErr_stop HE.out (show (fun k => errZ t (t.zones.getD k ⟨0, 0, []⟩)) k ≠ 0 by show errZ t (t.zones.getD k ⟨0, 0, []⟩) ≠ 0; rw [HZG.out]; exact h) hlt
              have h2 : errZ t (t.zones.getD k ⟨0, 0, []⟩) = errZ t ⟨cp, du, va⟩ := by rw [HZG.out]
              rw [HC1.out, h1, h2, if_pos h]
            have HST := Lib.hid hstop
            clear hstop
            rcases or4 (inB cp 0 1000000) (inB du 0 86400) true true with (i1 | ⟨i1, i2⟩ | ⟨_, _, i3⟩ | ⟨_, _, _, i3⟩) | ⟨i1, i2, _, _⟩
            case inl.inr.inr.inl | inl.inr.inr.inr => all_goals cases i3
            case inl.inl | inl.inr.inl =>
              all_goals
                have he : errZ t ⟨cp, du, va⟩ = 6 := by unfold errZ; rw [if_pos (by simp_all)]
                have HC := Lib.hid ((HST.out (by rw [he]; decide)).trans he)
                clear he
                go_upto_region 16 with fail
                rw [← HWZ.out, ← HGZ.out]
                go_wp2_with (go_at_call 94; refine (rin_any _ _ _ _).mono ?_; rintro e w' ⟨rfl, rfl⟩)
                go_ret
                exact ⟨ret_int HC.out.symm, HB1.out.trans (HWZ1.out.mono HB1.out.size)⟩
            have hez : errZ t ⟨cp, du, va⟩ = if va.length ≠ t.colours.length || va.any (fun v => !inB v 0 9) then 40 else 0 := by unfold errZ; rw [if_neg (by simp [i1, i2])]
            have HEZ := Lib.hid hez
            clear hez
            by_cases hl : va.length = t.colours.length
            · have hl0 : ((va.length : Int) != (t.colours.length : Int)) = false := by simp [hl]
              have HL := Lib.hid hl
              clear hl
              go_upto_region 16 with fail
              rw [← HWZ.out, ← HGZ.out]
              go_wp2_with (go_at_call 94; refine (rin_any _ _ _ _).mono ?_; rintro e w' ⟨rfl, rfl⟩)
              clear c0 c1 c2 r2 q0 q1 z0
              go_loopw [6] (fun j wi => ∃ q : Nat, q ≤ va.length ∧ j = .int .i64 q ∧ Hid ((va.take q).any (fun v => !inB v 0 9) = false) ∧ wz = wi) (fun j _ => va.length - (intOf j).toNat)
              case atStart => exact ⟨0, Nat.zero_le _, rfl, rfl, rfl⟩
              case round =>
                obtain ⟨q, hq, rfl, HA, rfl⟩ := hrel
                by_cases hlq : q < va.length
                · obtain ⟨pb, po, hpa, hpb, d0⟩ := (HVA.out wz HWZ1.out).at1 hlq
                  rw [hpa] at q2
                  obtain ⟨b, hb⟩ : ∃ b, b = inB va[q] 0 9 := ⟨_, rfl⟩
                  obtain ⟨cv, hcv⟩ : ∃ c, c = va[q] := ⟨_, rfl⟩
                  have HCC := Lib.hid (show Calls Try.prog 94 #[.int .i64 cv, .int .i64 0, .int .i64 9] wz fun e w' => e = .returned (.bool b) ∧ wz = w' by rw [hb, hcv]; exact rin_any _ _ _ _)
                  rw [← hcv] at d0 hb
                  have HB := Lib.hid hb
                  have HCV := Lib.hid hcv
                  clear hb hcv hpa
                  rcases b with _ | _
                  · have he : errZ t ⟨cp, du, va⟩ = 40 := by rw [HEZ.out, if_pos (by rw [any_hit hlq (by rw [← HCV.out, ← HB.out]; rfl)]; simp)]
                    have HC := Lib.hid ((HST.out (by rw [he]; decide)).trans he)
                    clear he
                    go_wp2_with (go_at_call 94; refine HCC.out.mono ?_; rintro e w' ⟨rfl, rfl⟩)
                    go_ret
                    exact ⟨ret_int HC.out.symm, HB1.out.trans (HWZ1.out.mono HB1.out.size)⟩
                  · go_wp2_with (go_at_call 94; refine HCC.out.mono ?_; rintro e w' ⟨rfl, rfl⟩)
                    go_roundw
                    case rel => exact ⟨q + 1, by omega, by go_num, any_take hlq HA.out (by rw [← HCV.out, ← HB.out]; rfl), trivial⟩
                    case measure => simp [intOf]; omega
                · obtain rfl : q = va.length := by omega
                  have hb : va.any (fun v => !inB v 0 9) = false := by have := HA.out; rwa [List.take_length] at this
                  have he : errZ t ⟨cp, du, va⟩ = 0 := by rw [HEZ.out, if_neg (by simp [hb, HL.out])]
                  have HGO := Lib.hid (firstErr_go HE.out (show (fun k => errZ t (t.zones.getD k ⟨0, 0, []⟩)) k = 0 by show errZ t (t.zones.getD k ⟨0, 0, []⟩) = 0; rw [HZG.out]; exact he))
                  clear hb he
                  go_wp2_with fail
                  go_roundw
                  case rel => exact ⟨k + 1, by omega, by go_num, HGO, HWZ1⟩
                  case measure => simp [intOf]; omega
            · have hl0 : ((va.length : Int) != (t.colours.length : Int)) = true := by simp; omega
              have he : errZ t ⟨cp, du, va⟩ = 40 := by rw [HEZ.out, if_pos (by simp [hl])]
              have HC := Lib.hid ((HST.out (by rw [he]; decide)).trans he)
              clear he hl
              go_upto_region 16 with fail
              rw [← HWZ.out, ← HGZ.out]
              go_wp2_with (go_at_call 94; refine (rin_any _ _ _ _).mono ?_; rintro e w' ⟨rfl, rfl⟩)
              go_ret
              exact ⟨ret_int HC.out.symm, HB1.out.trans (HWZ1.out.mono HB1.out.size)⟩
          · obtain rfl : k = t.zones.length := by omega
            have hc0 := HC1.out
            rw [if_neg (show ¬ firstErr (fun k => errZ t (t.zones.getD k ⟨0, 0, []⟩)) t.zones.length ≠ 0 from fun h => h HE.out)] at hc0
            have HC2 := Lib.hid hc0
            have HEZ := Lib.hid (fun k hk => firstErr_zero HE.out k hk)
            clear hc0 HC1 kr
            go_wp2_with fail
            clear r2
            go_loopw [7] (fun i wr2 => ∃ k : Nat, k ≤ t.ready.length ∧ i = .int .i64 k ∧ Hid (firstErr (errR t) k = 0) ∧ Hid (Below w1.heap.size w1 wr2)) (fun i _ => t.ready.length - (intOf i).toNat)
            case atStart => exact ⟨0, Nat.zero_le _, rfl, rfl, HW⟩
            case round =>
              skip
              obtain ⟨k, hk, rfl, HE, HX⟩ := hrel
              have hgr3 : gT < wr.heap.size := Nat.lt_of_lt_of_le hgl HX.out.size
              have kr := KT.out.below HX.out hgl
              have r0 := kr.cell 0
              have r3 := kr.cell 3
              simp at r0 r3
              by_cases hlt : k < t.ready.length
              · skip
                obtain ⟨rb, ro, hxr, hrb, c0, c1, c2⟩ := ((HT1.out.below HX.out).cR).at3 hlt
                obtain ⟨⟨pg, vr, at_⟩, hrk⟩ : ∃ z, z = t.ready[k] := ⟨_, rfl⟩
                rw [← hrk] at c0 c1 c2
                dsimp only at c0 c1 c2
                rw [hxr] at r3
                obtain ⟨wz, hwz⟩ : ∃ W, W = wr.alloc (.cells #[.int .i64 pg, .int .i64 vr, .int .i64 at_] 161) := ⟨_, rfl⟩
                obtain ⟨gZ, hgZ⟩ : ∃ g, g = wr.heap.size := ⟨_, rfl⟩
                have kz : Blk wz gZ 161 #[.int .i64 pg, .int .i64 vr, .int .i64 at_] := by rw [hwz, hgZ]; exact Blk.new _ _ _
                have HWZ1 := Lib.hid (show Below w1.heap.size w1 wz by rw [hwz]; exact HX.out.alloc HX.out.size _)
                have q0 := kz.cell 0
                have q1 := kz.cell 1
                have q2 := kz.cell 2
                simp at q0 q1 q2
                have hgz : gZ < wz.heap.size := kz.lt
                have z0 := (KT.out.below HWZ1.out hgl).cell 0
                simp at z0
                have f1 := IntWalk.i64_in ((t.colours.length : Int) - 1) (by omega)
                have HWZ := Lib.hid hwz
                have HGZ := Lib.hid hgZ
                have KZ := Lib.hid kz
                have HXR := Lib.hid hxr
                have hgd : t.ready.getD k (0, 0, 0) = (pg, vr, at_) := by rw [hrk]; simp [hlt]
                have her : errR t k = if !inB pg 0 ((t.colours.length : Int) - 1) || (!inB vr 0 9 || !inB at_ 0 86400) then 6 else if (t.ready.take k).any (fun q => q.1 == pg && q.2.1 == vr) then 10 else 0 := by
                  unfold errR; rw [hgd]; rfl
                have HER := Lib.hid her
                have hstop : errR t k ≠ 0 → checkT t = errR t k := fun h => by
                  have h1 := firstErr_stop HE.out h hlt
                  rw [HC2.out, h1, if_pos h]
                have HST := Lib.hid hstop
                clear hwz hgZ kz hxr hgd her hstop hrk kr
                rcases or4 (inB pg 0 ((t.colours.length : Int) - 1)) (inB vr 0 9) (inB at_ 0 86400) true with (i1 | ⟨i1, i2⟩ | ⟨i1, i2, i3⟩ | ⟨_, _, _, i3⟩) | ⟨i1, i2, i3, _⟩
                case inl.inr.inr.inr => cases i3
                case inl.inl | inl.inr.inl | inl.inr.inr.inl =>
                  all_goals
                    have he : errR t k = 6 := by rw [HER.out, if_pos (by simp_all)]
                    have HC := Lib.hid ((HST.out (by rw [he]; decide)).trans he)
                    clear he
                    go_upto_region 29 with fail
                    rw [← HWZ.out, ← HGZ.out]
                    go_wp2_with (go_at_call 94; refine (rin_any _ _ _ _).mono ?_; rintro e w' ⟨rfl, rfl⟩)
                    go_ret
                    exact ⟨ret_int HC.out.symm, HB1.out.trans (HWZ1.out.mono HB1.out.size)⟩
                have her2 : errR t k = if (t.ready.take k).any (fun q => q.1 == pg && q.2.1 == vr) then 10 else 0 := by rw [HER.out, if_neg (by simp [i1, i2, i3])]
                have HER2 := Lib.hid her2
                clear her2 HER
                go_upto_region 29 with fail
                rw [← HWZ.out, ← HGZ.out]
                go_wp2_with (go_at_call 94; refine (rin_any _ _ _ _).mono ?_; rintro e w' ⟨rfl, rfl⟩)
                clear c0 c1 c2 r0 r3 q0 q1 q2 z0
                go_loopw [9] (fun j wi => ∃ q : Nat, q ≤ k ∧ j = .int .i64 q ∧ Hid ((t.ready.take q).any (fun r => r.1 == pg && r.2.1 == vr) = false) ∧ Hid (Below wz.heap.size wz wi)) (fun j _ => k - (intOf j).toNat)
                case atStart => exact ⟨0, Nat.zero_le _, rfl, rfl, Below.refl _ _⟩
                case round =>
                  obtain ⟨q, hq, rfl, HA, HI⟩ := hrel
                  by_cases hlq : q < k
                  · skip
                    have hlr : q < t.ready.length := by omega
                    have HI1 := Lib.hid (HWZ1.out.trans (HI.out.mono HWZ1.out.size))
                    obtain ⟨rb2, ro2, hx2, hrb2, d0, d1, d2⟩ := ((HT1.out.below HI1.out).cR).at3 hlr
                    have kr := KT.out.below HI1.out hgl
                    have r3 := kr.cell 3
                    simp at r3
                    rw [hx2] at r3
                    have kz := KZ.out.below HI.out hgz
                    have q0 := kz.cell 0
                    have q1 := kz.cell 1
                    simp at q0 q1
                    have hgr4 : gT < wr.heap.size := Nat.lt_of_lt_of_le hgl HI1.out.size
                    have hgz4 : gZ < wr.heap.size := Nat.lt_of_lt_of_le hgz HI.out.size
                    obtain ⟨⟨pa, va, ta⟩, hrq⟩ : ∃ z, z = t.ready[q] := ⟨_, rfl⟩
                    rw [← hrq] at d0 d1 d2
                    dsimp only at d0 d1 d2
                    have HRQ := Lib.hid hrq
                    have i0 : (0 : Int) ≤ (q : Int) := by omega
                    have i4 : (q : Int) < (t.ready.length : Int) := by omega
                    clear hrq kr kz hx2 d2
                    by_cases e1 : pa = pg
                    · have t1 : (pa == pg) = true := by simp [e1]
                      by_cases e2 : va = vr
                      · have t2 : (va == vr) = true := by simp [e2]
                        have he : errR t k = 10 := by
                          rw [HER2.out, if_pos]
                          refine List.any_eq_true.2 ⟨t.ready[q], ?_, by rw [← HRQ.out]; simp [e1, e2]⟩
                          exact List.mem_take_iff_getElem.2 ⟨q, by omega, rfl⟩
                        have HC := Lib.hid ((HST.out (by rw [he]; decide)).trans he)
                        clear e1 e2 he
                        go_wp2_with fail
                        go_region
                        all_goals
                          go_wp2_with fail
                          go_ret
                          exact ⟨ret_int HC.out.symm, HB1.out.trans ((HI1.out.drew).mono HB1.out.size)⟩
                      · have t2 : (va == vr) = false := by simp [e2]
                        have HN := Lib.hid (any_take (p := fun r : Int × Int × Int => r.1 == pg && r.2.1 == vr) hlr HA.out (by rw [← HRQ.out]; simp [e2]))
                        clear e1 e2
                        go_wp2_with fail
                        go_region
                        all_goals
                          go_wp2_with fail
                          go_roundw
                          case rel => exact ⟨q + 1, by omega, by go_num, HN, HI.out.drew⟩
                          case measure => simp [intOf]; omega
                    · have t1 : (pa == pg) = false := by simp [e1]
                      have HN := Lib.hid (any_take (p := fun r : Int × Int × Int => r.1 == pg && r.2.1 == vr) hlr HA.out (by rw [← HRQ.out]; simp [e1]))
                      clear e1
                      go_wp2_with fail
                      go_region
                      all_goals
                        go_wp2_with fail
                        go_roundw
                        case rel => exact ⟨q + 1, by omega, by go_num, HN, HI.out.drew⟩
                        case measure => simp [intOf]; omega
                  · obtain rfl : q = k := by omega
                    have HGO := Lib.hid (firstErr_go HE.out (show errR t q = 0 by rw [HER2.out, HA.out]; rfl))
                    go_wp2_with fail
                    go_roundw
                    case rel => exact ⟨q + 1, by omega, by go_num, HGO, HWZ1.out.trans (HI.out.mono HWZ1.out.size)⟩
                    case measure => simp [intOf]; omega
              · obtain rfl : k = t.ready.length := by omega
                have hc1 := HC2.out
                rw [if_neg (show ¬ firstErr (errR t) t.ready.length ≠ 0 from fun h => h HE.out)] at hc1
                have HC3 := Lib.hid hc1
                have HBX := Lib.hid (HB1.out.trans (HX.out.mono HB1.out.size))
                have hrg : RgtT t := ⟨⟨by omega, fun c hc => inB_iff.1 (by have := List.any_eq_false.1 HP1.out c hc; simpa using this), HQ.out.1.1, HQ.out.1.2, HQ.out.2.1.1, HQ.out.2.1.2, HQ.out.2.2.1.1, HQ.out.2.2.1.2, HQ.out.2.2.2.1, HQ.out.2.2.2.2, HP2.out⟩, by omega, by omega, by omega, HEZ.out, fun k hk => firstErr_zero HE.out k hk⟩
                have HED := Lib.hid (show Calls Try.prog 96 #[.agg (titV t x)] wr fun e w' => ∃ (A : Option Addr) (n c : Nat), e = .returned (.slice A n c) ∧ n = (edsN t t.zones.length).length ∧ Below wr.heap.size wr w' from
                  (reditions_any t x zs wr HS.out ((HT1.out.below HX.out).mono HX.out.size) hrg).mono (by
                    rintro e w' ⟨v, es, rfl, hE, hm, hb⟩
                    obtain ⟨A', c', rfl⟩ := own_shape hE.row
                    exact ⟨A', es.length, c', rfl, by rw [← edsR_len, ← hm]; simp, hb⟩))
                clear hc1 HC2 hrg r3
                unfold titV at HED
                have r1 := kr.cell 1
                have r2 := kr.cell 2
                have r3 := kr.cell 3
                have r4 := kr.cell 4
                have r5 := kr.cell 5
                have r6 := kr.cell 6
                have r7 := kr.cell 7
                simp at r1 r2 r3 r4 r5 r6 r7
                obtain ⟨n, hn⟩ : ∃ n, n = (edsN t t.zones.length).length := ⟨_, rfl⟩
                rw [← hn] at HED HC3
                clear hn kr
                by_cases e0 : n = 0
                · have t0 : ((n : Int) == 0) = true := by simp [e0]
                  have HC := Lib.hid (HC3.out.trans (if_pos e0))
                  clear e0
                  go_wp2_with (go_at_call 96; refine HED.out.mono ?_; rintro e w5 ⟨A', n', c', rfl, rfl, hb5⟩; have HB5 := Lib.hid hb5; clear hb5)
                  go_ret
                  exact ⟨ret_int HC.out.symm, HBX.out.trans (HB5.out.mono HBX.out.size)⟩
                · have t0 : ((n : Int) == 0) = false := by simp; exact fun h => e0 (by simp [h])
                  have HC4 := Lib.hid (HC3.out.trans (if_neg e0))
                  clear e0
                  by_cases e1 : 7 < n
                  · have HC := Lib.hid (HC4.out.trans (if_pos e1))
                    have t1 : decide ((7 : Int) < (n : Int)) = true := by simp; omega
                    clear e1
                    go_wp2_with (go_at_call 96; refine HED.out.mono ?_; rintro e w5 ⟨A', n', c', rfl, rfl, hb5⟩; have HB5 := Lib.hid hb5; clear hb5)
                    go_ret
                    exact ⟨ret_int HC.out.symm, HBX.out.trans (HB5.out.mono HBX.out.size)⟩
                  · have HC := Lib.hid (HC4.out.trans (if_neg e1))
                    have t1 : decide ((7 : Int) < (n : Int)) = false := by simp; omega
                    clear e1
                    go_wp2_with (go_at_call 96; refine HED.out.mono ?_; rintro e w5 ⟨A', n', c', rfl, rfl, hb5⟩; have HB5 := Lib.hid hb5; clear hb5)
                    go_ret
                    exact ⟨ret_int HC.out.symm, HBX.out.trans (HB5.out.mono HBX.out.size)⟩
end Go.Proofs.Ytokdleanpkkdpaa
namespace Go.Ed
open Go.Fh Go.RowKit Go.Proofs.Ytokdleanpkkdpaa
theorem paired_nn {t : TitD} (h : pairedB t = true) : ∀ q ∈ t.pairs, 0 ≤ q := by
  intro q hq
  obtain ⟨i, hi, rfl⟩ := List.getElem_of_mem hq
  have h1 := List.all_eq_true.1 h i (List.mem_range.2 hi)
  simp only [pairAt, Bool.and_eq_true] at h1
  have h2 := inB_iff.1 h1.1.1
  simpa [hi] using h2.1
/-- the reference's editions in memory -/
structure RefAt (w : Go.World) (B : Nat) (t : TitD) (A : Option Go.Addr) (c : Nat) (es : List EdM) : Prop where
  eds : es.map (·.1) = edsR t
  ed : RdsAt w B (.slice A es.length c) es
theorem RefAt.len {w : Go.World} {B : Nat} {t : TitD} {A : Option Go.Addr} {c : Nat} {es : List EdM} (h : RefAt w B t A c es) : es.length = (edsR t).length := by rw [← h.eds]; simp
theorem RefAt.below {w w' : Go.World} {B : Nat} {t : TitD} {A : Option Go.Addr} {c : Nat} {es : List EdM} (h : RefAt w B t A c es) (hb : Below w.heap.size w w') : RefAt w' B t A c es := ⟨h.eds, h.ed.below hb⟩
theorem RefAt.base {w : Go.World} {B B' : Nat} {t : TitD} {A : Option Go.Addr} {c : Nat} {es : List EdM} (h : RefAt w B t A c es) (hB : B' ≤ B) : RefAt w B' t A c es := ⟨h.eds, h.ed.base hB⟩
theorem RefAt.hE {w : Go.World} {B : Nat} {t : TitD} {A : Option Go.Addr} {c : Nat} {es : List EdM} (h : RefAt w B t A c es) : Sl encEd 5 w w.heap.size A es := Sl.of_own encEd_len h.ed.row
theorem RefAt.hV {w : Go.World} {B : Nat} {t : TitD} {A : Option Go.Addr} {c : Nat} {es : List EdM} (h : RefAt w B t A c es) (i : Nat) (hi : i < es.length) : Sl encInt 1 w w.heap.size es[i].2.v es[i].1.variants := own_sl (h.ed.var i hi)
theorem RefAt.hZ {w : Go.World} {B : Nat} {t : TitD} {A : Option Go.Addr} {c : Nat} {es : List EdM} (h : RefAt w B t A c es) (i : Nat) (hi : i < es.length) : Sl encInt 1 w w.heap.size es[i].2.z es[i].1.zones := own_sl (h.ed.zon i hi)
end Go.Ed
namespace Go.Proofs.Ytokdleanpkkdpaa
open Go.RowKit Go.Fh Go.Ed
/-- the reference's editions, as slices -/
theorem reds_any (t : TitD) (x : TA) (zs : List ZonM) (w : World) (hs : Sizes t) (hT : TitAt w w.heap.size t x zs) (hr : RgtT t) :
    Calls Try.prog 96 #[.agg (titV t x)] w fun e w' => ∃ (A : Option Addr) (c : Nat) (es : List EdM), e = .returned (.slice A es.length c) ∧ RefAt w' w.heap.size t A c es ∧ Below w.heap.size w w' :=
  (reditions_any t x zs w hs hT hr).mono (by
    rintro e w' ⟨v, es, rfl, hE, hm, hb⟩
    obtain ⟨A', c', rfl⟩ := own_shape hE.row
    exact ⟨A', c', es, rfl, ⟨hm, hE⟩, hb⟩)
set_option maxRecDepth 20000 in
set_option maxHeartbeats 2000000 in
theorem rEds_bad (t : TitD) (x : TA) (zs : List ZonM) (w : World) (hs : Sizes t) (hT : TitAt w w.heap.size t x zs) (hc : checkT t ≠ 0) :
    Calls Try.prog 43 #[.agg (titV t x)] w fun e w' => e = .returned (.tuple #[.slice none 0 0, .int .i64 (checkT t)]) ∧ Below w.heap.size w w' := by
  obtain ⟨w1, hw1⟩ : ∃ W, W = w.alloc (.cells (titV t x) 88) := ⟨_, rfl⟩
  have hb1 : Below w.heap.size w w1 := by rw [hw1]; exact (Below.refl _ _).alloc (Nat.le_refl _) _
  obtain ⟨gT, hgT⟩ : ∃ g, g = w.heap.size := ⟨_, rfl⟩
  have kT : Blk w1 gT 88 (titV t x) := by rw [hw1, hgT]; exact Blk.new _ _ _
  have HCK := Lib.hid (rcheck_any t x zs w1 hs ((hT.below hb1).mono hb1.size))
  have r0 := kT.cell 0
  have r1 := kT.cell 1
  have r2 := kT.cell 2
  have r3 := kT.cell 3
  have r4 := kT.cell 4
  have r5 := kT.cell 5
  have r6 := kT.cell 6
  have r7 := kT.cell 7
  simp [titV] at r0 r1 r2 r3 r4 r5 r6 r7
  obtain ⟨ck, hck⟩ : ∃ c, c = checkT t := ⟨_, rfl⟩
  rw [← hck] at HCK hc ⊢
  have ht : (ck == 0) = false := by simpa using hc
  have HB1 := Lib.hid hb1
  have HW1 := Lib.hid hw1
  have HGT := Lib.hid hgT
  clear hb1 hw1 hgT kT hT hs hc hck
  unfold titV at *
  go_enter Try.func43, Try.ntmps43
  go_upto_region 1 with fail
  rw [← HW1.out, ← HGT.out]
  go_wp2_with (go_at_call 42; refine HCK.out.mono ?_; rintro e w2 ⟨rfl, hb2⟩; have HB2 := Lib.hid hb2; clear hb2)
  go_ret2
  exact ⟨rfl, HB1.out.trans (HB2.out.mono HB1.out.size)⟩
set_option maxRecDepth 20000 in
set_option maxHeartbeats 2000000 in
theorem rEds_ok (t : TitD) (x : TA) (zs : List ZonM) (w : World) (hs : Sizes t) (hT : TitAt w w.heap.size t x zs) (hc : checkT t = 0) :
    Calls Try.prog 43 #[.agg (titV t x)] w fun e w' => ∃ (A : Option Addr) (c : Nat) (es : List EdM), e = .returned (.tuple #[.slice A es.length c, .int .i64 0]) ∧ RefAt w' w.heap.size t A c es ∧ Below w.heap.size w w' := by
  obtain ⟨w1, hw1⟩ : ∃ W, W = w.alloc (.cells (titV t x) 88) := ⟨_, rfl⟩
  have hb1 : Below w.heap.size w w1 := by rw [hw1]; exact (Below.refl _ _).alloc (Nat.le_refl _) _
  obtain ⟨gT, hgT⟩ : ∃ g, g = w.heap.size := ⟨_, rfl⟩
  have kT : Blk w1 gT 88 (titV t x) := by rw [hw1, hgT]; exact Blk.new _ _ _
  have hT1 := (hT.below hb1).mono hb1.size
  have hgl : gT < w1.heap.size := kT.lt
  have HCK := Lib.hid (rcheck_any t x zs w1 hs hT1)
  have r0 := kT.cell 0
  have r1 := kT.cell 1
  have r2 := kT.cell 2
  have r3 := kT.cell 3
  have r4 := kT.cell 4
  have r5 := kT.cell 5
  have r6 := kT.cell 6
  have r7 := kT.cell 7
  simp [titV] at r0 r1 r2 r3 r4 r5 r6 r7
  have HB1 := Lib.hid hb1
  have HW1 := Lib.hid hw1
  have HGT := Lib.hid hgT
  have KT := Lib.hid kT
  have HT1 := Lib.hid hT1
  have HS := Lib.hid hs
  have HC := Lib.hid hc
  have HRE := Lib.hid (fun W (h : Below w1.heap.size w1 W) => reds_any t x zs W hs ((hT1.below h).mono h.size) (chk_ok hc).rgt)
  clear hb1 hw1 hgT kT hT hT1 hs hc
  unfold titV at *
  go_enter Try.func43, Try.ntmps43
  go_upto_region 1 with fail
  rw [← HW1.out, ← HGT.out]
  go_wp2_with first
    | (go_at_call 42; refine HCK.out.mono ?_; rintro e w2 ⟨rfl, hb2⟩; rw [HC.out]; have HB2 := Lib.hid hb2; clear hb2; have k2 := KT.out.below HB2.out hgl; clear r0 r1 r2 r3 r4 r5 r6 r7; have r0 := k2.cell 0; have r1 := k2.cell 1; have r2 := k2.cell 2; have r3 := k2.cell 3; have r4 := k2.cell 4; have r5 := k2.cell 5; have r6 := k2.cell 6; have r7 := k2.cell 7; simp at r0 r1 r2 r3 r4 r5 r6 r7; clear k2)
    | (go_at_call 96; refine (HRE.out _ HB2.out).mono ?_; rintro e w3 ⟨A, c, es, rfl, hr3, hb3⟩; have HR3 := Lib.hid hr3; have HB3 := Lib.hid hb3; clear hr3 hb3)
  go_ret2
  exact ⟨A, c, es, rfl, HR3.out.base (Nat.le_trans HB1.out.size HB2.out.size), HB1.out.trans ((HB2.out.trans (HB3.out.mono HB2.out.size)).mono HB1.out.size)⟩
set_option maxRecDepth 20000 in
set_option maxHeartbeats 2000000 in
theorem rPlates_bad (t : TitD) (x : TA) (zs : List ZonM) (w : World) (hs : Sizes t) (hT : TitAt w w.heap.size t x zs) (hc : checkT t ≠ 0) :
    Calls Try.prog 47 #[.agg (titV t x)] w fun e w' => e = .returned (.tuple #[.int .i64 0, .int .i64 (checkT t)]) ∧ Below w.heap.size w w' := by
  obtain ⟨w1, hw1⟩ : ∃ W, W = w.alloc (.cells (titV t x) 88) := ⟨_, rfl⟩
  have hb1 : Below w.heap.size w w1 := by rw [hw1]; exact (Below.refl _ _).alloc (Nat.le_refl _) _
  obtain ⟨gT, hgT⟩ : ∃ g, g = w.heap.size := ⟨_, rfl⟩
  have kT : Blk w1 gT 88 (titV t x) := by rw [hw1, hgT]; exact Blk.new _ _ _
  have HCK := Lib.hid (rcheck_any t x zs w1 hs ((hT.below hb1).mono hb1.size))
  have r0 := kT.cell 0
  have r1 := kT.cell 1
  have r2 := kT.cell 2
  have r3 := kT.cell 3
  have r4 := kT.cell 4
  have r5 := kT.cell 5
  have r6 := kT.cell 6
  have r7 := kT.cell 7
  simp [titV] at r0 r1 r2 r3 r4 r5 r6 r7
  obtain ⟨ck, hck⟩ : ∃ c, c = checkT t := ⟨_, rfl⟩
  rw [← hck] at HCK hc ⊢
  have ht : (ck == 0) = false := by simpa using hc
  have HB1 := Lib.hid hb1
  have HW1 := Lib.hid hw1
  have HGT := Lib.hid hgT
  clear hb1 hw1 hgT kT hT hs hc hck
  unfold titV at *
  go_enter Try.func47, Try.ntmps47
  go_upto_region 1 with fail
  rw [← HW1.out, ← HGT.out]
  go_wp2_with (go_at_call 42; refine HCK.out.mono ?_; rintro e w2 ⟨rfl, hb2⟩; have HB2 := Lib.hid hb2; clear hb2)
  go_ret2
  exact ⟨rfl, HB1.out.trans (HB2.out.mono HB1.out.size)⟩
set_option maxRecDepth 20000 in
set_option maxHeartbeats 2000000 in
theorem rPlates_ok (t : TitD) (x : TA) (zs : List ZonM) (w : World) (hs : Sizes t) (hT : TitAt w w.heap.size t x zs) (hc : checkT t = 0) :
    Calls Try.prog 47 #[.agg (titV t x)] w fun e w' => e = .returned (.tuple #[.int .i64 (allB t), .int .i64 0]) ∧ Below w.heap.size w w' := by
  obtain ⟨w1, hw1⟩ : ∃ W, W = w.alloc (.cells (titV t x) 88) := ⟨_, rfl⟩
  have hb1 : Below w.heap.size w w1 := by rw [hw1]; exact (Below.refl _ _).alloc (Nat.le_refl _) _
  obtain ⟨gT, hgT⟩ : ∃ g, g = w.heap.size := ⟨_, rfl⟩
  have kT : Blk w1 gT 88 (titV t x) := by rw [hw1, hgT]; exact Blk.new _ _ _
  have hT1 := (hT.below hb1).mono hb1.size
  have hgl : gT < w1.heap.size := kT.lt
  have HCK := Lib.hid (rcheck_any t x zs w1 hs hT1)
  have r0 := kT.cell 0
  have r1 := kT.cell 1
  have r2 := kT.cell 2
  have r3 := kT.cell 3
  have r4 := kT.cell 4
  have r5 := kT.cell 5
  have r6 := kT.cell 6
  have r7 := kT.cell 7
  simp [titV] at r0 r1 r2 r3 r4 r5 r6 r7
  have HB1 := Lib.hid hb1
  have HW1 := Lib.hid hw1
  have HGT := Lib.hid hgT
  have KT := Lib.hid kT
  have HT1 := Lib.hid hT1
  have HS := Lib.hid hs
  have HC := Lib.hid hc
  have hk := (chk_ok hc).ok
  have hgp := good_of_paired hk.pair
  have HRE := Lib.hid (fun W (h : Below w1.heap.size w1 W) => rplates_any t x W (by have := hk.c1; omega) hk.c4 hs.s2 hgp (paired_nn hk.pair) ((hT1.cA.below h).mono h.size) ((hT1.cB.below h).mono h.size))
  clear hb1 hw1 hgT kT hT hT1 hs hc hk hgp
  unfold titV at *
  go_enter Try.func47, Try.ntmps47
  go_upto_region 1 with fail
  rw [← HW1.out, ← HGT.out]
  go_wp2_with first
    | (go_at_call 42; refine HCK.out.mono ?_; rintro e w2 ⟨rfl, hb2⟩; rw [HC.out]; have HB2 := Lib.hid hb2; clear hb2; have k2 := KT.out.below HB2.out hgl; clear r0 r1 r2 r3 r4 r5 r6 r7; have r0 := k2.cell 0; have r1 := k2.cell 1; have r2 := k2.cell 2; have r3 := k2.cell 3; have r4 := k2.cell 4; have r5 := k2.cell 5; have r6 := k2.cell 6; have r7 := k2.cell 7; simp at r0 r1 r2 r3 r4 r5 r6 r7; clear k2)
    | (go_at_call 98; refine (HRE.out _ HB2.out).mono ?_; rintro e w3 ⟨rfl, hb3⟩; have HB3 := Lib.hid hb3; clear hb3)
  go_ret2
  exact ⟨rfl, HB1.out.trans ((HB2.out.trans (HB3.out.mono HB2.out.size)).mono HB1.out.size)⟩
set_option maxRecDepth 20000 in
set_option maxHeartbeats 2000000 in
theorem rChange_bad (t : TitD) (x : TA) (zs : List ZonM) (w : World) (hs : Sizes t) (hT : TitAt w w.heap.size t x zs) (a b : Int) (hc : checkT t ≠ 0) :
    Calls Try.prog 46 #[.agg (titV t x), .int .i64 a, .int .i64 b] w fun e w' => e = .returned (.tuple #[.int .i64 0, .int .i64 (checkT t)]) ∧ Below w.heap.size w w' := by
  obtain ⟨w1, hw1⟩ : ∃ W, W = w.alloc (.cells (titV t x) 88) := ⟨_, rfl⟩
  have hb1 : Below w.heap.size w w1 := by rw [hw1]; exact (Below.refl _ _).alloc (Nat.le_refl _) _
  obtain ⟨gT, hgT⟩ : ∃ g, g = w.heap.size := ⟨_, rfl⟩
  have kT : Blk w1 gT 88 (titV t x) := by rw [hw1, hgT]; exact Blk.new _ _ _
  have HCK := Lib.hid (rEds_bad t x zs w1 hs ((hT.below hb1).mono hb1.size) hc)
  have r0 := kT.cell 0
  have r1 := kT.cell 1
  have r2 := kT.cell 2
  have r3 := kT.cell 3
  have r4 := kT.cell 4
  have r5 := kT.cell 5
  have r6 := kT.cell 6
  have r7 := kT.cell 7
  simp [titV] at r0 r1 r2 r3 r4 r5 r6 r7
  obtain ⟨ck, hck⟩ : ∃ c, c = checkT t := ⟨_, rfl⟩
  rw [← hck] at HCK hc ⊢
  have ht : (ck == 0) = false := by simpa using hc
  have HB1 := Lib.hid hb1
  have HW1 := Lib.hid hw1
  have HGT := Lib.hid hgT
  clear hb1 hw1 hgT kT hT hs hc hck
  unfold titV at *
  go_enter Try.func46, Try.ntmps46
  go_upto_region 1 with fail
  rw [← HW1.out, ← HGT.out]
  go_wp2_with (go_at_call 43; refine HCK.out.mono ?_; rintro e w2 ⟨rfl, hb2⟩; have HB2 := Lib.hid hb2; clear hb2)
  go_ret2
  exact ⟨rfl, HB1.out.trans (HB2.out.mono HB1.out.size)⟩
set_option maxRecDepth 20000 in
set_option maxHeartbeats 2000000 in
theorem rChange_out (t : TitD) (x : TA) (zs : List ZonM) (w : World) (hs : Sizes t) (hT : TitAt w w.heap.size t x zs) (a b : Int) (hc : checkT t = 0) (hab : inB a 0 (((edsR t).length : Int) - 1) = false ∨ inB b 0 (((edsR t).length : Int) - 1) = false) :
    Calls Try.prog 46 #[.agg (titV t x), .int .i64 a, .int .i64 b] w fun e w' => e = .returned (.tuple #[.int .i64 0, .int .i64 1]) ∧ Below w.heap.size w w' := by
  have h7 := (eds_le hc).2
  have f1 := IntWalk.i64_in (((edsR t).length : Int) - 1) (by omega)
  obtain ⟨w1, hw1⟩ : ∃ W, W = w.alloc (.cells (titV t x) 88) := ⟨_, rfl⟩
  have hb1 : Below w.heap.size w w1 := by rw [hw1]; exact (Below.refl _ _).alloc (Nat.le_refl _) _
  obtain ⟨gT, hgT⟩ : ∃ g, g = w.heap.size := ⟨_, rfl⟩
  have kT : Blk w1 gT 88 (titV t x) := by rw [hw1, hgT]; exact Blk.new _ _ _
  have hT1 := (hT.below hb1).mono hb1.size
  have hgl : gT < w1.heap.size := kT.lt
  have HCK := Lib.hid (rEds_ok t x zs w1 hs hT1 hc)
  have r0 := kT.cell 0
  have r1 := kT.cell 1
  have r2 := kT.cell 2
  have r3 := kT.cell 3
  have r4 := kT.cell 4
  have r5 := kT.cell 5
  have r6 := kT.cell 6
  have r7 := kT.cell 7
  simp [titV] at r0 r1 r2 r3 r4 r5 r6 r7
  have HB1 := Lib.hid hb1
  have HW1 := Lib.hid hw1
  have HGT := Lib.hid hgT
  have KT := Lib.hid kT
  clear hb1 hw1 hgT kT hT hT1 hs hc
  cases i1 : inB a 0 (((edsR t).length : Int) - 1)
  case false | true =>
    all_goals
      try (have i2 : inB b 0 (((edsR t).length : Int) - 1) = false := by rcases hab with h | h; (rw [i1] at h; cases h); exact h)
      unfold titV at *
      go_enter Try.func46, Try.ntmps46
      go_upto_region 1 with fail
      rw [← HW1.out, ← HGT.out]
      go_wp2_with first
        | (go_at_call 43; refine HCK.out.mono ?_; rintro e w2 ⟨A, c, es, rfl, hr2, hb2⟩; rw [hr2.len]; have HR2 := Lib.hid hr2; have HB2 := Lib.hid hb2; clear hr2 hb2; have k2 := KT.out.below HB2.out hgl; clear r0 r1 r2 r3 r4 r5 r6 r7; have r0 := k2.cell 0; have r1 := k2.cell 1; have r2 := k2.cell 2; have r3 := k2.cell 3; have r4 := k2.cell 4; have r5 := k2.cell 5; have r6 := k2.cell 6; have r7 := k2.cell 7; simp at r0 r1 r2 r3 r4 r5 r6 r7; clear k2)
        | (go_at_call 94; refine (rin_any _ _ _ _).mono ?_; rintro e w' ⟨rfl, rfl⟩)
      go_ret2
      exact ⟨rfl, HB1.out.trans (HB2.out.mono HB1.out.size)⟩
set_option maxRecDepth 20000 in
set_option maxHeartbeats 2000000 in
theorem rChange_ok (t : TitD) (x : TA) (zs : List ZonM) (w : World) (hs : Sizes t) (hT : TitAt w w.heap.size t x zs) (a b : Nat) (hc : checkT t = 0) (ha : a < (edsR t).length) (hb : b < (edsR t).length) :
    Calls Try.prog 46 #[.agg (titV t x), .int .i64 (a : Int), .int .i64 (b : Int)] w fun e w' => e = .returned (.tuple #[.int .i64 (changeB t ((edsR t).getD a ed0) ((edsR t).getD b ed0)), .int .i64 0]) ∧ Below w.heap.size w w' := by
  have h7 := (eds_le hc).2
  have f1 := IntWalk.i64_in (((edsR t).length : Int) - 1) (by omega)
  obtain ⟨w1, hw1⟩ : ∃ W, W = w.alloc (.cells (titV t x) 88) := ⟨_, rfl⟩
  have hb1 : Below w.heap.size w w1 := by rw [hw1]; exact (Below.refl _ _).alloc (Nat.le_refl _) _
  obtain ⟨gT, hgT⟩ : ∃ g, g = w.heap.size := ⟨_, rfl⟩
  have kT : Blk w1 gT 88 (titV t x) := by rw [hw1, hgT]; exact Blk.new _ _ _
  have hT1 := (hT.below hb1).mono hb1.size
  have hgl : gT < w1.heap.size := kT.lt
  have HCK := Lib.hid (rEds_ok t x zs w1 hs hT1 hc)
  have r0 := kT.cell 0
  have r1 := kT.cell 1
  have r2 := kT.cell 2
  have r3 := kT.cell 3
  have r4 := kT.cell 4
  have r5 := kT.cell 5
  have r6 := kT.cell 6
  have r7 := kT.cell 7
  simp [titV] at r0 r1 r2 r3 r4 r5 r6 r7
  have HB1 := Lib.hid hb1
  have HW1 := Lib.hid hw1
  have HGT := Lib.hid hgT
  have KT := Lib.hid kT
  have i1 : inB (a : Int) 0 (((edsR t).length : Int) - 1) = true := inB_iff.2 ⟨by omega, by omega⟩
  have i2 : inB (b : Int) 0 (((edsR t).length : Int) - 1) = true := inB_iff.2 ⟨by omega, by omega⟩
  have hk := (chk_ok hc).ok
  have hgp := good_of_paired hk.pair
  have HCH := Lib.hid (fun W (h : Below w1.heap.size w1 W) (A : Option Addr) (c : Nat) (es : List EdM) (hr : RefAt W w1.heap.size t A c es) (ha' : a < es.length) (hb' : b < es.length) =>
    (show Calls Try.prog 97 #[.agg (titV t x), .agg #[.slice es[a].2.z es[a].1.zones.length es[a].2.cz, .int .i64 es[a].1.copies, .int .i64 es[a].1.ready, .int .i64 es[a].1.due, .slice es[a].2.v es[a].1.variants.length es[a].2.cv], .agg #[.slice es[b].2.z es[b].1.zones.length es[b].2.cz, .int .i64 es[b].1.copies, .int .i64 es[b].1.ready, .int .i64 es[b].1.due, .slice es[b].2.v es[b].1.variants.length es[b].2.cv]] W fun e w' => e = .returned (.int .i64 (changeB t ((edsR t).getD a ed0) ((edsR t).getD b ed0))) ∧ Below W.heap.size W w' from by
      have e1 : (edsR t).getD a ed0 = es[a].1 := by rw [← hr.eds]; simp [ha']
      have e2 : (edsR t).getD b ed0 = es[b].1 := by rw [← hr.eds]; simp [hb']
      rw [e1, e2]
      have v1 := (edsR_zn (chk_ok hc) (e := es[a].1) (by rw [← hr.eds]; exact List.mem_map.2 ⟨_, List.getElem_mem ha', rfl⟩))
      have v2 := (edsR_zn (chk_ok hc) (e := es[b].1) (by rw [← hr.eds]; exact List.mem_map.2 ⟨_, List.getElem_mem hb', rfl⟩))
      exact rchange_any t x es[a].1 es[b].1 ⟨es[a].2.z, es[a].2.cz, es[a].2.v, es[a].2.cv⟩ ⟨es[b].2.z, es[b].2.cz, es[b].2.v, es[b].2.cv⟩ W (by have := hk.c1; omega) hk.c4 hs.s2 hgp (paired_nn hk.pair) v1.2.1 v2.2.1 ((hT1.cA.below h).mono h.size) ((hT1.cB.below h).mono h.size) (hr.hV a ha') (hr.hV b hb')))
  clear hb1 hw1 hgT kT hT hT1 hs hc hk hgp
  unfold titV at *
  go_enter Try.func46, Try.ntmps46
  go_upto_region 1 with fail
  rw [← HW1.out, ← HGT.out]
  go_upto_region 6 with first
    | (go_at_call 43; refine HCK.out.mono ?_; rintro e w2 ⟨A, c, es, rfl, hr2, hb2⟩; rw [hr2.len]; have HR2 := Lib.hid hr2; have HB2 := Lib.hid hb2; clear hr2 hb2; have k2 := KT.out.below HB2.out hgl; clear r0 r1 r2 r3 r4 r5 r6 r7; have r0 := k2.cell 0; have r1 := k2.cell 1; have r2 := k2.cell 2; have r3 := k2.cell 3; have r4 := k2.cell 4; have r5 := k2.cell 5; have r6 := k2.cell 6; have r7 := k2.cell 7; simp at r0 r1 r2 r3 r4 r5 r6 r7; clear k2)
    | (go_at_call 94; refine (rin_any _ _ _ _).mono ?_; rintro e w' ⟨rfl, rfl⟩)
  have hes := HR2.out.len
  have hae : a < es.length := by omega
  have hbe : b < es.length := by omega
  have HP := Lib.hid (fun W (hb : Below w2.heap.size w2 W) => HCH.out W (HB2.out.trans (hb.mono HB2.out.size)) A c es (HR2.out.below hb) hae hbe)
  obtain ⟨gE, cE, hve, _, _⟩ := HR2.out.ed.row.form (by omega)
  injection hve with hA _ hcq
  subst hA hcq
  have a0 := (HR2.out.ed.at_ hae 0 (by omega)).1
  have a1 := (HR2.out.ed.at_ hae 1 (by omega)).1
  have a2 := (HR2.out.ed.at_ hae 2 (by omega)).1
  have a3 := (HR2.out.ed.at_ hae 3 (by omega)).1
  have a4 := (HR2.out.ed.at_ hae 4 (by omega)).1
  have b0 := (HR2.out.ed.at_ hbe 0 (by omega)).1
  have b1 := (HR2.out.ed.at_ hbe 1 (by omega)).1
  have b2 := (HR2.out.ed.at_ hbe 2 (by omega)).1
  have b3 := (HR2.out.ed.at_ hbe 3 (by omega)).1
  have b4 := (HR2.out.ed.at_ hbe 4 (by omega)).1
  simp [encEd] at a0 a1 a2 a3 a4 b0 b1 b2 b3 b4
  have j0 : (0 : Int) ≤ (a : Int) := by omega
  have j1 : (a : Int) < (((edsR t).length : Nat) : Int) := by omega
  have j2 : (0 : Int) ≤ (b : Int) := by omega
  have j3 : (b : Int) < (((edsR t).length : Nat) : Int) := by omega
  clear h7 f1 ha hb
  go_region_law (go_simp; go_at_call 97; refine (HP.out _ (by repeat (first | exact Below.refl _ _ | refine Below.drew ?_))).mono ?_; rintro e w3 ⟨rfl, hb3⟩; have HB3 := Lib.hid (Below.trans (show Below w2.heap.size w2 _ from by repeat (first | exact Below.refl _ _ | refine Below.drew ?_)) hb3); clear hb3; go_wp2_with fail)
  all_goals
    go_wp2_with fail
    go_ret2
    exact ⟨rfl, HB1.out.trans ((HB2.out.trans (HB3.out.mono HB2.out.size)).mono HB1.out.size)⟩
end Go.Proofs.Ytokdleanpkkdpaa
namespace Go.Ed
theorem rightB_true {n : Nat} {l : List Int} (h : l.length = n) (h2 : ∀ j, j < n → ∃ x ∈ l, x = (j : Int)) : rightB n l = true := by
  unfold rightB
  simp only [Bool.and_eq_true, decide_eq_true_eq, List.all_eq_true, List.any_eq_true, beq_iff_eq, List.mem_range]
  exact ⟨h, h2⟩
theorem rightB_len {n : Nat} {l : List Int} (h : l.length ≠ n) : rightB n l = false := by
  unfold rightB
  simp [h]
theorem rightB_no {n : Nat} {l : List Int} {e : Nat} (he : e < n) (h : ∀ x ∈ l, x ≠ (e : Int)) : rightB n l = false := by
  cases hb : rightB n l
  · rfl
  · unfold rightB at hb
    simp only [Bool.and_eq_true, decide_eq_true_eq, List.all_eq_true, List.any_eq_true, beq_iff_eq, List.mem_range] at hb
    obtain ⟨x, hx, hq⟩ := hb.2 e he
    exact absurd hq (h x hx)
end Go.Ed
namespace Go.Proofs.Ytokdleanpkkdpaa
open Go.RowKit Go.Fh Go.Ed
set_option maxRecDepth 20000 in
set_option maxHeartbeats 2000000 in
theorem right_any (A : Option Addr) (c : Nat) (l : List Int) (n : Nat) (w : World) (hn : n ≤ 1000) (hl : l.length ≤ 1000000000) (hA : Sl encInt 1 w w.heap.size A l) :
    Calls Try.prog 99 #[.slice A l.length c, .int .i64 n] w fun e w' => e = .returned (.bool (rightB n l)) ∧ w = w' := by
  by_cases hle : l.length = n
  · have t0 : ((l.length : Int) != (n : Int)) = false := by simp [hle]
    have HA := Lib.hid hA
    have HL := Lib.hid hle
    clear hA hle
    go_enter Try.func99, Try.ntmps99
    go_wp2_with fail
    go_loopw [5] (fun i wr => ∃ e : Nat, e ≤ n ∧ i = .int .i64 e ∧ Hid (∀ j, j < e → ∃ x ∈ l, x = (j : Int)) ∧ w = wr) (fun i _ => n - (intOf i).toNat)
    case atStart => exact ⟨0, Nat.zero_le _, rfl, fun j hj => absurd hj (by omega), rfl⟩
    case round =>
      obtain ⟨e, he, rfl, HE, rfl⟩ := hrel
      by_cases hlt : e < n
      · go_wp2_with fail
        go_loopw [7, 6] (fun i b wr => ∃ (q : Nat) (f : Bool), q ≤ n ∧ i = .int .i64 q ∧ b = .bool f ∧ Hid (f = true ↔ ∃ j, ∃ h : j < l.length, j < q ∧ l[j] = (e : Int)) ∧ w = wr) (fun i _ _ => n - (intOf i).toNat)
        case atStart => exact ⟨0, false, Nat.zero_le _, rfl, rfl, by constructor <;> intro h; (cases h); (obtain ⟨j, _, hj, _⟩ := h; omega), rfl⟩
        case round =>
          obtain ⟨q, f, hq, rfl, rfl, HF, rfl⟩ := hrel
          by_cases hlq : q < n
          · have hql : q < l.length := by rw [HL.out]; exact hlq
            obtain ⟨pb, po, hpa, hpb, c0⟩ := HA.out.at1 hql
            subst hpa
            have i0 : (0 : Int) ≤ (q : Int) := by omega
            have i1 : (q : Int) < (l.length : Int) := by omega
            rcases f with _ | _
            · by_cases h1 : l[q] = (e : Int)
              · have t1 : (l[q] == (e : Int)) = true := by simpa using h1
                have HN := Lib.hid (show (true = true ↔ ∃ j, ∃ h : j < l.length, j < q + 1 ∧ l[j] = (e : Int)) from ⟨fun _ => ⟨q, hql, by omega, h1⟩, fun _ => rfl⟩)
                clear h1
                go_wp2_with fail
                go_roundw
                case rel => exact ⟨q + 1, true, by omega, by go_num, rfl, HN, trivial⟩
                case measure => simp [intOf]; omega
              · have t1 : (l[q] == (e : Int)) = false := by simpa using h1
                have HN := Lib.hid (show (false = true ↔ ∃ j, ∃ h : j < l.length, j < q + 1 ∧ l[j] = (e : Int)) from ⟨fun h => (by cases h), fun ⟨j, hj, hjq, hx⟩ => by
                  by_cases ej : j = q
                  · subst ej; exact absurd hx h1
                  · exact HF.out.2 ⟨j, hj, by omega, hx⟩⟩)
                clear h1
                go_wp2_with fail
                go_roundw
                case rel => exact ⟨q + 1, false, by omega, by go_num, rfl, HN, trivial⟩
                case measure => simp [intOf]; omega
            · have HN := Lib.hid (show (true = true ↔ ∃ j, ∃ h : j < l.length, j < q + 1 ∧ l[j] = (e : Int)) from ⟨fun _ => (by obtain ⟨j, h1, h2, h3⟩ := HF.out.1 rfl; exact ⟨j, h1, by omega, h3⟩), fun _ => rfl⟩)
              go_wp2_with fail
              go_roundw
              case rel => exact ⟨q + 1, true, by omega, by go_num, rfl, HN, trivial⟩
              case measure => simp [intOf]; omega
          · obtain rfl : q = n := by omega
            rcases f with _ | _
            · have HR := Lib.hid (show rightB q l = false from rightB_no hlt fun x hx h => by
                  obtain ⟨j, hj, rfl⟩ := List.getElem_of_mem hx
                  have := HF.out.2 ⟨j, hj, by rw [← HL.out]; exact hj, h⟩
                  cases this)
              go_wp2_with fail
              go_ret
              exact ⟨by rw [HR.out]; rfl, rfl⟩
            · go_wp2_with fail
              go_roundw
              case rel =>
                refine ⟨e + 1, by omega, by go_num, fun j hj => ?_, trivial⟩
                by_cases ej : j = e
                · subst ej
                  obtain ⟨i, hi, _, h3⟩ := HF.out.1 rfl
                  exact ⟨l[i], List.getElem_mem hi, h3⟩
                · exact HE.out j (by omega)
              case measure => simp [intOf]; omega
      · obtain rfl : e = n := by omega
        have HR := Lib.hid (show rightB e l = true from rightB_true HL.out HE.out)
        go_wp2_with fail
        go_ret
        exact ⟨by rw [HR.out]; rfl, rfl⟩
  · have t0 : ((l.length : Int) != (n : Int)) = true := by simp; omega
    have HR := Lib.hid (show rightB n l = false from rightB_len hle)
    clear hA hle
    go_enter Try.func99, Try.ntmps99
    go_wp2_with fail
    go_ret
    exact ⟨by rw [HR.out]; rfl, rfl⟩
end Go.Proofs.Ytokdleanpkkdpaa
