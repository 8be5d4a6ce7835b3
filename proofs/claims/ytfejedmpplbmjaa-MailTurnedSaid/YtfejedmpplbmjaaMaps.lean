/- Maps of the call's own as association lists: laws of lookup and store; conditions: none. -/
import Derived.Test.YtfejedmpplbmjaaBase
import Derived.Maps.Own
import Derived.Maps.OwnOps
set_option linter.unusedSimpArgs false
set_option linter.unusedVariables false
namespace Go.Fh
open Go.RowKit

def mget {κ ν : Type} [DecidableEq κ] : List (κ × ν) → κ → Option ν
  | [], _ => none
  | p :: m, x => if x = p.1 then some p.2 else mget m x
def mset {κ ν : Type} [DecidableEq κ] : List (κ × ν) → κ → ν → List (κ × ν)
  | [], x, v => [(x, v)]
  | p :: m, x, v => if x = p.1 then (x, v) :: m else p :: mset m x v
theorem mget_mset {κ ν : Type} [DecidableEq κ] (m : List (κ × ν)) (x y : κ) (v : ν) : mget (mset m x v) y = if y = x then some v else mget m y := by
  induction m with
  | nil => simp [mset, mget]
  | cons p m ih =>
    by_cases h : x = p.1
    · simp only [mset, if_pos h, mget]
      by_cases hy : y = x
      · simp [hy]
      · rw [if_neg hy, if_neg hy, if_neg (by rw [← h]; exact hy)]
    · simp only [mset, if_neg h, mget]
      by_cases hy : y = p.1
      · rw [if_pos hy, if_pos hy, if_neg (by intro e; exact h (e.symm.trans hy))]
      · rw [if_neg hy, if_neg hy, ih]

/-- block g is a map whose entries, in order, are m -/
def MapIs {κ ν : Type} (ek : κ → Value) (ev : ν → Value) (w : World) (g : Nat) (m : List (κ × ν)) : Prop :=
  ∃ es clock, w.heap[g]? = some (.map es clock) ∧ es.toList.map (fun e => (e.key, e.val)) = m.map (fun p => (ek p.1, ev p.2))

section
variable {κ ν : Type} {ek : κ → Value} {ev : ν → Value} {w w' : World} {g : Nat} {m : List (κ × ν)}
theorem MapIs.new (w : World) (ek : κ → Value) (ev : ν → Value) : MapIs ek ev (w.alloc (.map #[] 0)) w.heap.size [] := ⟨#[], 0, heap_alloc_new w _, rfl⟩
theorem MapIs.lt (h : MapIs ek ev w g m) : g < w.heap.size := by
  obtain ⟨es, c, hh, _⟩ := h
  rcases Nat.lt_or_ge g w.heap.size with hlt | hge
  · exact hlt
  · rw [Array.getElem?_eq_none hge] at hh; cases hh
theorem MapIs.same (h : MapIs ek ev w g m) (he : w'.heap[g]? = w.heap[g]?) : MapIs ek ev w' g m := by
  obtain ⟨es, c, hh, r⟩ := h
  exact ⟨es, c, he.trans hh, r⟩
theorem MapIs.below {B : Nat} (h : MapIs ek ev w g m) (hb : Below B w w') (hg : g < B) : MapIs ek ev w' g m := h.same (hb.block g hg)
theorem MapIs.alloc (h : MapIs ek ev w g m) (o : Obj) : MapIs ek ev (w.alloc o) g m := h.same (Below.heap_alloc w o g h.lt)
theorem MapIs.drewN (h : MapIs ek ev w g m) (n : Nat) : MapIs ek ev (w.drewN n) g m := h
theorem MapIs.drew (h : MapIs ek ev w g m) : MapIs ek ev w.drew g m := h
end

/-- what is found: the first entry with the key -/
def fnd {κ : Type} [DecidableEq κ] : List MapEntry → List κ → κ → Nat → Option (Nat × Value)
  | e :: es, k :: ks, x, i => if x = k then some (i, e.val) else fnd es ks x (i + 1)
  | _, _, _, _ => none

/-- what the walk wants of a key's type -/
structure KeyLaw {κ : Type} [DecidableEq κ] (P : Program) (K : TypeId) (ek : κ → Value) : Prop where
  check : ∀ (b : Bool) (x : κ) (w : World), (Instr.checkKey b 10000 K (ek x)).run P w = .ok () w
  find : ∀ (es : List MapEntry) (ks : List κ) (x : κ) (w : World), es.map (·.key) = ks.map ek → (Instr.findKey K (ek x) es).run P w = .ok (fnd es ks x 0) w
  stay : ∀ x : κ, Instr.sameBits 10000 (ek x) (ek x) = true

theorem fnd_get {κ ν : Type} [DecidableEq κ] {ek : κ → Value} {ev : ν → Value} : ∀ (es : List MapEntry) (m : List (κ × ν)) (x : κ) (i : Nat), es.map (fun e => (e.key, e.val)) = m.map (fun p => (ek p.1, ev p.2)) →
    (fnd es (m.map (·.1)) x i).map (·.2) = (mget m x).map ev
  | [], [], x, i, _ => rfl
  | [], _ :: _, x, i, h => by simp at h
  | _ :: _, [], x, i, h => by simp at h
  | e :: es, p :: m, x, i, h => by
    simp only [List.map_cons, List.cons.injEq, Prod.mk.injEq] at h
    simp only [List.map_cons, fnd, mget]
    by_cases hx : x = p.1
    · simp [hx, h.1.2]
    · rw [if_neg hx, if_neg hx]; exact fnd_get es m x (i + 1) h.2

theorem modify_at {α : Type} (f : α → α) : ∀ (pre : List α) (e : α) (es : List α), (pre ++ e :: es).modify pre.length f = pre ++ f e :: es
  | [], e, es => by simp
  | x :: pre, e, es => by simp [modify_at f pre e es]

theorem fnd_set {κ ν : Type} [DecidableEq κ] {ek : κ → Value} {ev : ν → Value} : ∀ (es : List MapEntry) (m : List (κ × ν)) (x : κ) (v : ν) (i : Nat) (pre : List MapEntry), pre.length = i → es.map (fun e => (e.key, e.val)) = m.map (fun p => (ek p.1, ev p.2)) →
    match fnd es (m.map (·.1)) x i with
    | some (j, _) => i ≤ j ∧ j < i + es.length ∧ (((pre ++ es)[j]?).map (·.key)) = some (ek x) ∧ ∀ f : MapEntry → MapEntry, (∀ e, f e = { e with key := ek x, val := ev v }) → ((pre ++ es).modify j f).map (fun e => (e.key, e.val)) = pre.map (fun e => (e.key, e.val)) ++ (mset m x v).map (fun p => (ek p.1, ev p.2))
    | none => mset m x v = m ++ [(x, v)]
  | [], [], x, v, i, pre, _, _ => rfl
  | [], _ :: _, x, v, i, pre, _, h => by simp at h
  | _ :: _, [], x, v, i, pre, _, h => by simp at h
  | e :: es, p :: m, x, v, i, pre, hi, h => by
    simp only [List.map_cons, List.cons.injEq, Prod.mk.injEq] at h
    simp only [List.map_cons, fnd, mset]
    by_cases hx : x = p.1
    · rw [if_pos hx, if_pos hx]
      refine ⟨Nat.le_refl _, by simp, ?_, fun f hf => ?_⟩
      · rw [List.getElem?_append_right (by omega)]; simp [hi, h.1.1, hx]
      · subst hi
        rw [modify_at]
        simp [hf, h.2]
    · rw [if_neg hx, if_neg hx]
      have ih := fnd_set es m x v (i + 1) (pre ++ [e]) (by simp [hi]) h.2
      cases hf : fnd es (m.map (·.1)) x (i + 1) with
      | none => rw [hf] at ih; simp only at ih ⊢; rw [ih]; rfl
      | some q =>
        obtain ⟨j, u⟩ := q
        rw [hf] at ih
        simp only at ih ⊢
        obtain ⟨h1, h2, h3, h4⟩ := ih
        refine ⟨by omega, by simp; omega, by simpa using h3, fun f hff => ?_⟩
        have := h4 f hff
        simp only [List.append_assoc, List.cons_append, List.nil_append] at this
        rw [this]
        simp [h.1.1, h.1.2]

section
variable {P : Program} {κ ν : Type} [DecidableEq κ] {ek : κ → Value} {ev : ν → Value} {w : World} {g : Nat} {m : List (κ × ν)}

theorem MapIs.lookup {T K E : TypeId} (hT : P.underlying T = some (.map K E)) (L : KeyLaw P K ek) {z : Value} (hz : ∀ w, (zeroValue E).run P w = .ok z w) (h : MapIs ek ev w g m) (x : κ) (ok : Bool) :
    (Instr.lookup T (.map (some g)) (ek x) ok).run P w = .ok (if ok then .tuple #[((mget m x).map ev).getD z, .bool (mget m x).isSome] else ((mget m x).map ev).getD z) w := by
  obtain ⟨es, clock, hh, hm⟩ := h
  have hk : es.toList.map (·.key) = (m.map (·.1)).map ek := by
    have := congrArg (List.map Prod.fst) hm
    simpa [Function.comp_def] using this
  have hg := fnd_get (ek := ek) (ev := ev) es.toList m x 0 hm
  have hf := L.find es.toList (m.map (·.1)) x w hk
  simp only [Instr.lookup, Sem.run_bind, run_underlying hT, Result.andThen_ok, MapKept.run_getObj_map hh, Sem.run_pure, L.check, hf]
  cases hr : fnd es.toList (m.map (·.1)) x 0 with
  | none =>
    rw [hr] at hg
    cases hq : mget m x with
    | some v => rw [hq] at hg; simp at hg
    | none => cases ok <;> simp [hz]
  | some q =>
    obtain ⟨j, u⟩ := q
    rw [hr] at hg
    cases hq : mget m x with
    | none => rw [hq] at hg; simp at hg
    | some v =>
      rw [hq] at hg
      simp at hg
      subst hg
      cases ok <;> simp

theorem MapIs.update {T K E : TypeId} (hT : P.underlying T = some (.map K E)) (L : KeyLaw P K ek) (h : MapIs ek ev w g m) (x : κ) (v : ν) :
    ∃ w', (Instr.mapUpdate T (.map (some g)) (ek x) (ev v)).run P w = .ok () w' ∧ MapIs ek ev w' g (mset m x v) ∧ w.grownBy w' (some g) ∧ w'.heap.size = w.heap.size := by
  have hg := h.lt
  obtain ⟨es, clock, hh, hm⟩ := h
  have hk : es.toList.map (·.key) = (m.map (·.1)).map ek := by
    have := congrArg (List.map Prod.fst) hm
    simpa [Function.comp_def] using this
  have hs := fnd_set (ek := ek) (ev := ev) es.toList m x v 0 [] rfl hm
  have hf := L.find es.toList (m.map (·.1)) x w hk
  have hgrow : ∀ o : Obj, w.grownBy { w with heap := w.heap.setIfInBounds g o } (some g) := fun o =>
    ⟨rfl, rfl, rfl, by simp, fun k hk hne => by
      simp only [Array.getElem?_setIfInBounds]
      rw [if_neg (fun e => hne (by rw [e]))]⟩
  cases hr : fnd es.toList (m.map (·.1)) x 0 with
  | none =>
    rw [hr] at hs
    simp only at hs
    refine ⟨{ w with heap := w.heap.setIfInBounds g (.map (es.push { key := ek x, val := ev v, born := clock }) (clock + 1)) }, ?_, ⟨_, _, by simp [hg]; exact ⟨rfl, rfl⟩, ?_⟩, hgrow _, by simp⟩
    · simp only [Instr.mapUpdate, Sem.run_bind, run_underlying hT, Result.andThen_ok, MapKept.run_getObj_map hh, L.check, hf, hr]
      exact MapKept.run_setObj_map _ hh
    · rw [hs]; simp [hm]
  | some q =>
    obtain ⟨j, u⟩ := q
    rw [hr] at hs
    simp only [List.nil_append, List.map_nil] at hs
    obtain ⟨_, hj, hkey, hmod⟩ := hs
    have hkeep : (Instr.keyThatStays (((es[j]?).map (·.key)).getD (ek x)) (ek x)).run P w = .ok (ek x) w := by
      have : (es[j]?).map (·.key) = some (ek x) := by rw [← hkey]; simp
      rw [this]
      simp [Instr.keyThatStays, L.stay]
    refine ⟨{ w with heap := w.heap.setIfInBounds g (.map (es.modify j fun e => { e with key := ek x, val := ev v }) clock) }, ?_, ⟨_, _, by simp [hg]; exact ⟨rfl, rfl⟩, ?_⟩, hgrow _, by simp⟩
    · simp only [Instr.mapUpdate, Sem.run_bind, run_underlying hT, Result.andThen_ok, MapKept.run_getObj_map hh, L.check, hf, hr, hkeep]
      exact MapKept.run_setObj_map _ hh
    · have := hmod (fun e => { e with key := ek x, val := ev v }) (fun _ => rfl)
      simpa using this

theorem wpList_lookup {ops : Array Oper} {rest : List Oper} {o : Oper} {a : Act} {Q : Exit → Act → World → Prop} (hgd : o.guard = none) (mx kx : Operand) (T : TypeId) (ok : Bool)
    (ho : o.op = .lookup T mx kx ok) {K E : TypeId} (hT : P.underlying T = some (.map K E)) (L : KeyLaw P K ek) {z : Value} (hz : ∀ w, (zeroValue E).run P w = .ok z w)
    (h : MapIs ek ev w g m) (x : κ) (hm : a.eval mx = .map (some g)) (hx : a.eval kx = ek x)
    (hK : wpList P ops Q rest (a.put o.dst (if ok then .tuple #[((mget m x).map ev).getD z, .bool (mget m x).isSome] else ((mget m x).map ev).getD z)) w) : wpList P ops Q (o :: rest) a w := by
  refine wpList_plain hgd fun K' hK' => ?_
  unfold Oper.wp
  simp only [execOp, ho, hm, hx, Sem.run_bind, h.lookup hT L hz x ok, Result.andThen_ok, Sem.run_pure, Oper.upon_value]
  exact hK' _ _ hK

theorem wpList_update {ops : Array Oper} {rest : List Oper} {o : Oper} {a : Act} {Q : Exit → Act → World → Prop} (hgd : o.guard = none) (mx kx vx : Operand) (T : TypeId)
    (ho : o.op = .mapUpdate T mx kx vx) {K E : TypeId} (hT : P.underlying T = some (.map K E)) (L : KeyLaw P K ek)
    (h : MapIs ek ev w g m) (x : κ) (v : ν) (hm : a.eval mx = .map (some g)) (hx : a.eval kx = ek x) (hv : a.eval vx = ev v)
    (hK : ∀ w', MapIs ek ev w' g (mset m x v) → w.grownBy w' (some g) → w'.heap.size = w.heap.size → wpList P ops Q rest (a.put o.dst undef) w') : wpList P ops Q (o :: rest) a w := by
  refine wpList_plain hgd fun K' hK' => ?_
  obtain ⟨w', hr, h1, h2, h3⟩ := h.update hT L x v
  unfold Oper.wp
  simp only [execOp, ho, hm, hx, hv, Sem.run_bind, hr, Result.andThen_ok, Sem.run_pure, Oper.upon_skip]
  exact hK' _ _ (hK w' h1 h2 h3)
end

/-- keys that are ints -/
theorem keyLaw_int {P : Program} {K : TypeId} (hK : P.underlying K = some (.int .i64)) : KeyLaw P K (fun n : Int => Value.int .i64 n) where
  check b x w := (fun n : Nat => (by simp [Instr.checkKey, run_underlying hK] : (Instr.checkKey b (n + 1) K (.int .i64 x)).run P w = .ok () w)) 9999
  find es ks x w h := by
    have key : ∀ (es : List MapEntry) (ks : List Int) (i : Nat), es.map (·.key) = ks.map (fun n : Int => Value.int .i64 n) → Instr.findNow (.int .i64) (.int .i64 x) es i = some (fnd es ks x i) := by
      intro es
      induction es with
      | nil => intro ks i h; cases ks with
        | nil => rfl
        | cons _ _ => simp at h
      | cons e es ih =>
        intro ks i h
        cases ks with
        | nil => simp at h
        | cons k ks =>
          simp only [List.map_cons, List.cons.injEq] at h
          simp only [Instr.findNow, h.1, Instr.sameNow, if_true, fnd]
          by_cases hx : x = k
          · subst hx; simp
          · have : (x == k) = false := by simp [hx]
            simp only [this, if_neg hx]
            exact ih ks (i + 1) h.2
    simp [Instr.findKey, run_underlying hK, key es ks 0 h]
  stay x := (fun n : Nat => (by simp [Instr.sameBits] : Instr.sameBits n (.int .i64 x) (.int .i64 x) = true)) 10000
end Go.Fh
