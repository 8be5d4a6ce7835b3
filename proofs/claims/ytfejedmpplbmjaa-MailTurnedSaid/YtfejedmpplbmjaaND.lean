/- Bundles: the plain answer, and memory words; conditions: as each says. -/
import Derived.Test.YtfejedmpplbmjaaNC
set_option linter.unusedSimpArgs false
set_option linter.unusedVariables false
namespace Go.Ml
open Go.RowKit Go.Fh Go.Proofs.Ytfejedmpplbmjaa
/-- a bundle, and where its copies lie -/
structure BdR where
  drop : Int
  num : Int
  of : Int
  a : Option Addr
  c : Nat
  cps : List Int
  dec : Bool
def encB (r : BdR) : List Value := [.int .i64 r.drop, .int .i64 r.num, .int .i64 r.of, .slice r.a r.cps.length r.c, .bool r.dec]
def BdR.bare (r : BdR) : Int × Int × Int × List Int × Bool := (r.drop, r.num, r.of, r.cps, r.dec)
/-- the numbers of a zone's copies -/
def nzZ (l : List (Int × Int)) (z : Int) : List Int := (l.filter fun r => decide (r.2 = z)).map (·.1)
abbrev Drp := Int × Int × Int
/-- how many copies of a zone the first drops get -/
def usdZ (ds : List Drp) (z : Int) : Nat := ((ds.filter fun x => decide (x.2.1 = z)).map fun x => x.2.2.toNat).sum
def remZ (l : List (Int × Int)) (ds : List Drp) (z : Int) : List Int := (nzZ l z).drop (usdZ ds z)
def offZ (sz : List Int) (i : Nat) : Nat := ((sz.take i).map Int.toNat).sum
def decB (bt : Int) (dl : List Int) (cps : List Int) : Bool := cps.any fun k => decide (k.tdiv bt ∈ dl)
def cutZ (sz : List Int) (l : List Int) (i : Nat) : List Int := (l.drop (offZ sz i)).take (sz.getD i 0).toNat
/-- the first bundles of a drop -/
def bunI (bt : Int) (dl : List Int) (sz : List Int) (l : List Int) (id : Int) (n : Nat) : List (Int × Int × Int × List Int × Bool) :=
  (List.range n).map fun i : Nat => (id, (i : Int) + 1, (sz.length : Int), cutZ sz l i, decB bt dl (cutZ sz l i))
def bunJ (bt : Int) (dl : List Int) (size least : Int) (l : List (Int × Int)) (ds : List Drp) (j : Nat) : List (Int × Int × Int × List Int × Bool) :=
  let x := ds.getD j (0, 0, 0)
  bunI bt dl (szS size least x.2.2) (remZ l (ds.take j) x.2.1) x.1 (szS size least x.2.2).length
/-- the bundles of the first drops -/
def bunS (bt : Int) (dl : List Int) (size least : Int) (l : List (Int × Int)) (ds : List Drp) (n : Nat) : List (Int × Int × Int × List Int × Bool) := (List.range n).flatMap (bunJ bt dl size least l ds)
theorem bunS_succ (bt : Int) (dl : List Int) (size least : Int) (l : List (Int × Int)) (ds : List Drp) (n : Nat) : bunS bt dl size least l ds (n + 1) = bunS bt dl size least l ds n ++ bunJ bt dl size least l ds n := by simp [bunS, List.range_succ]
theorem bunI_succ (bt : Int) (dl sz l : List Int) (id : Int) (n : Nat) : bunI bt dl sz l id (n + 1) = bunI bt dl sz l id n ++ [(id, (n : Int) + 1, (sz.length : Int), cutZ sz l n, decB bt dl (cutZ sz l n))] := by simp [bunI, List.range_succ]
theorem nzZ_app (l : List (Int × Int)) (x : Int × Int) (z : Int) : nzZ (l ++ [x]) z = nzZ l z ++ (if x.2 = z then [x.1] else []) := by
  unfold nzZ
  rw [List.filter_append, List.map_append, List.filter_cons, List.filter_nil]
  by_cases h : x.2 = z <;> simp [h]
theorem offZ_succ (sz : List Int) {i : Nat} (hi : i < sz.length) : offZ sz (i + 1) = offZ sz i + (sz.getD i 0).toNat := by
  unfold offZ
  rw [List.take_succ_eq_append_getElem hi, List.map_append, List.sum_append, List.getD_eq_getElem?_getD, List.getElem?_eq_getElem hi]
  simp
def vId (v : Value) : Value := v
def ekI (n : Int) : Value := .int .i64 n
def bV (b : Bool) : Value := .bool b
def getv (m : List (Int × Value)) (z : Int) : Value := (mget m z).getD (.slice none 0 0)
theorem getv_mset (m : List (Int × Value)) (x y : Int) (v : Value) : getv (mset m x v) y = if y = x then v else getv m y := by
  unfold getv
  rw [mget_mset]
  split <;> rfl
/-- the rows of the zones in the making -/
structure OfM (W : World) (gO base : Nat) (vN : Value) (m : List (Int × Value)) (lN lZ : List (Int × Int)) : Prop where
  mp : MapIs ekI vId W gO m
  rN : W.ownsRow base 3 1 vN lN.length ((lN.map (·.1)).map (Value.int .i64))
  rZ : ∀ z, W.ownsRow base 3 1 (getv m z) (nzZ lZ z).length ((nzZ lZ z).map (Value.int .i64))
  nN : ∀ z b, vN.ownBlock = some b → (getv m z).ownBlock ≠ some b
  nZ : ∀ z z', z ≠ z' → ∀ b, (getv m z).ownBlock = some b → (getv m z').ownBlock ≠ some b
  hb : base ≤ W.heap.size
  hg : gO < base
section
variable {W W2 W9 W10 : World} {gO base : Nat} {vN v9 : Value} {m : List (Int × Value)} {lN lZ : List (Int × Int)} {x : Int × Int}
theorem OfM.below (h : OfM W gO base vN m lN lZ) (hb : Below W.heap.size W W2) : OfM W2 gO base vN m lN lZ :=
  ⟨h.mp.below hb h.mp.lt, own_belowV h.rN hb, fun z => own_belowV (h.rZ z) hb, h.nN, h.nZ, Nat.le_trans h.hb hb.size, h.hg⟩
theorem OfM.stepN (h : OfM W gO base vN m lN lZ) (hb : Below W.heap.size W W2) (hg : W2.grownBy W9 vN.ownBlock) (ho : W9.ownsRow base 3 1 v9 (lN ++ [x]).length (((lN ++ [x]).map (·.1)).map (Value.int .i64))) (hat : vN.ownBlock = v9.ownBlock ∨ v9.ownBlock = some W2.heap.size) : OfM W9 gO base v9 m (lN ++ [x]) lZ := by
  have h2 := h.below hb
  have hgl := h2.hg
  refine ⟨h2.mp.same (hg.block _ h2.mp.lt (fun e => by have := own_at2 h2.rN e.symm; omega)), ho, fun z => ?_, fun z b hv e => ?_, h2.nZ, Nat.le_trans h2.hb hg.size, h2.hg⟩
  · refine (h2.rZ z).kept hg ?_
    cases hz : (getv m z).ownBlock with
    | none => exact .inl rfl
    | some b => exact .inr fun e => h2.nN z b e.symm hz
  · rcases hat with ht | ht
    · exact h2.nN z b (ht.trans hv) e
    · rw [ht] at hv
      injection hv with hv
      obtain ⟨⟨cs, hc⟩, _⟩ := own_at (h2.rZ z) e
      have := lt_of_heap hc
      omega
theorem OfM.stepZ (h : OfM W gO base vN m lN lZ) (hb : Below W.heap.size W W2) (hg : W2.grownBy W9 (getv m x.2).ownBlock) (ho : W9.ownsRow base 3 1 v9 ((nzZ lZ x.2).length + 1) ((nzZ lZ x.2).map (Value.int .i64) ++ [.int .i64 x.1])) (hat : (getv m x.2).ownBlock = v9.ownBlock ∨ v9.ownBlock = some W2.heap.size)
    (hm : MapIs ekI vId W10 gO (mset m x.2 v9)) (hg2 : W9.grownBy W10 (some gO)) : OfM W10 gO base vN (mset m x.2 v9) lN (lZ ++ [x]) := by
  have h2 := h.below hb
  have hgl := h2.hg
  have hfar : ∀ (v : Value) (n : Nat) (xs : List Value), W9.ownsRow base 3 1 v n xs → W10.ownsRow base 3 1 v n xs := fun v n xs ho => ho.kept hg2 (by
    cases hv : v.ownBlock with
    | none => exact .inl rfl
    | some b => exact .inr fun e => by injection e with e; have := own_at2 ho hv; omega)
  have hold : ∀ (v : Value), (∃ n xs, W2.ownsRow base 3 1 v n xs) → ∀ b, v9.ownBlock = some b → v.ownBlock = some b → (getv m x.2).ownBlock = some b := fun v ⟨n, xs, ho2⟩ b h9 hv => by
    rcases hat with ht | ht
    · exact ht.trans h9
    · rw [ht] at h9
      injection h9 with h9
      obtain ⟨⟨cs, hc⟩, _⟩ := own_at ho2 hv
      have := lt_of_heap hc
      omega
  refine ⟨hm, hfar _ _ _ (h2.rN.kept hg ?_), fun z => ?_, fun z b hv e => ?_, fun z z' hz b hv e => ?_, Nat.le_trans h2.hb (Nat.le_trans hg.size hg2.size), h2.hg⟩
  · cases hv : vN.ownBlock with
    | none => exact .inl rfl
    | some b => exact .inr fun e => h2.nN x.2 b hv e.symm
  · rw [getv_mset, nzZ_app]
    by_cases hz : z = x.2
    · rw [if_pos hz, if_pos hz.symm, hz, List.length_append, List.map_append]
      exact hfar _ _ _ ho
    · rw [if_neg hz, if_neg (fun e => hz e.symm), List.append_nil]
      refine hfar _ _ _ ((h2.rZ z).kept hg ?_)
      cases hv : (getv m z).ownBlock with
      | none => exact .inl rfl
      | some b => exact .inr fun e => h2.nZ z x.2 hz b hv e.symm
  · rw [getv_mset] at e
    by_cases hz : z = x.2
    · rw [if_pos hz] at e
      exact h2.nN x.2 b hv (hold vN ⟨_, _, h2.rN⟩ b e hv)
    · rw [if_neg hz] at e
      exact h2.nN z b hv e
  · rw [getv_mset] at hv e
    by_cases h1 : z = x.2
    · rw [if_pos h1] at hv
      rw [if_neg (fun e2 => hz (h1.trans e2.symm))] at e
      exact h2.nZ x.2 z' (fun e2 => hz (h1.trans e2)) b (hold _ ⟨_, _, h2.rZ z'⟩ b hv e) e
    · rw [if_neg h1] at hv
      by_cases h3 : z' = x.2
      · rw [if_pos h3] at e
        exact h2.nZ z x.2 h1 b hv (hold _ ⟨_, _, h2.rZ z⟩ b e hv)
      · rw [if_neg h3] at e
        exact h2.nZ z z' hz b hv e
end
/-- what is left of each zone -/
structure SfM (W3 : World) (W : World) (gO : Nat) (m : List (Int × Value)) (rem : Int → List Int) : Prop where
  mp : MapIs ekI vId W gO m
  sf : ∀ z, ∃ A c, getv m z = .slice A (rem z).length c ∧ (rem z).length ≤ c ∧ Sl encInt 1 W3 W3.heap.size A (rem z) ∧ ∀ b o, A = some ⟨b, o, none⟩ → b ≠ gO
theorem SfM.of {W : World} {gO base : Nat} {vN : Value} {m : List (Int × Value)} {lN lZ : List (Int × Int)} (h : OfM W gO base vN m lN lZ) : SfM W W gO m (nzZ lZ) := by
  refine ⟨h.mp, fun z => ?_⟩
  obtain ⟨A, c, hv⟩ := own_shape (h.rZ z)
  have ho := h.rZ z
  rw [hv] at ho
  refine ⟨A, c, hv, ?_, own_sl ho, fun b o hA => ?_⟩
  · rcases ho.2 with ⟨h1, h2⟩ | ⟨g, cap, cur, h1, _, _, h2, _⟩
    · rw [h2]; exact Nat.zero_le _
    · injection h1 with _ _ h1
      rw [h1]; exact h2
  · have hob : (Value.slice A (nzZ lZ z).length c).ownBlock = some b := by rw [hA]; rfl
    have := (own_at ho hob).2
    have := h.hg
    omega
theorem SfM.keep {W3 W W' : World} {gO : Nat} {m : List (Int × Value)} {rem : Int → List Int} (h : SfM W3 W gO m rem) (hb : Below W.heap.size W W') : SfM W3 W' gO m rem := ⟨h.mp.below hb h.mp.lt, h.sf⟩
theorem SfM.cut {W3 W W' : World} {gO : Nat} {m : List (Int × Value)} {rem : Int → List Int} (h : SfM W3 W gO m rem) {z : Int} {n : Nat} {b o c : Nat} (hn : n ≤ (rem z).length) (hv : getv m z = .slice (some ⟨b, o, none⟩) (rem z).length c)
    (hm : MapIs ekI vId W' gO (mset m z (.slice (some ⟨b, o + n, none⟩) ((rem z).length - n) (c - n)))) : SfM W3 W' gO (mset m z (.slice (some ⟨b, o + n, none⟩) ((rem z).length - n) (c - n))) (fun y => if y = z then (rem z).drop n else rem y) := by
  refine ⟨hm, fun y => ?_⟩
  obtain ⟨A, c', h1, h2, h3, h4⟩ := h.sf y
  rw [getv_mset]
  by_cases hy : y = z
  · subst hy
    rw [hv] at h1
    injection h1 with hA _ hc
    subst hA hc
    refine ⟨some ⟨b, o + n, none⟩, c - n, by simp, by simp; omega, fun hne => ?_, fun b' o' e => ?_⟩
    · simp only [if_true] at hne
      have hne2 : rem y ≠ [] := by intro e; rw [e] at hne; simp at hne
      obtain ⟨b2, o2, hA, hbl, hc⟩ := h3 hne2
      injection hA with hA
      injection hA with e1 e2
      subst e1 e2
      refine ⟨b, o + n, rfl, hbl, fun k x hk j u hu => ?_⟩
      simp only [if_true, List.getElem?_drop] at hk
      have := hc (n + k) x hk j u hu
      rw [show o + n + k * 1 + j = o + (n + k) * 1 + j by omega]
      exact this
    · injection e with e
      injection e with e1 _
      subst e1
      exact h4 b o rfl
  · simp only [if_neg hy]
    exact ⟨A, c', h1, h2, h3, h4⟩
/-- the bundles in the making -/
structure BuM (W : World) (base : Nat) (rows : List BdR) (vB : Value) : Prop where
  rB : W.ownsRow base 94 5 vB rows.length (rows.flatMap encB)
  pP : ∀ r ∈ rows, W.ownsRow base 3 1 (.slice r.a r.cps.length r.c) r.cps.length (r.cps.map (Value.int .i64))
theorem BuM.below {W W2 : World} {base : Nat} {rows : List BdR} {vB : Value} (h : BuM W base rows vB) (hb : Below W.heap.size W W2) : BuM W2 base rows vB := ⟨own_belowV h.rB hb, fun r hr => own_belowV (h.pP r hr) hb⟩
theorem BuM.far {W W2 : World} {base g : Nat} {rows : List BdR} {vB : Value} (h : BuM W base rows vB) (hg : W.grownBy W2 (some g)) (hl : g < base) : BuM W2 base rows vB := by
  have hk : ∀ (v : Value) (e : TypeId) (s n : Nat) (xs : List Value), W.ownsRow base e s v n xs → W2.ownsRow base e s v n xs := fun v e s n xs ho => ho.kept hg (by
    cases hv : v.ownBlock with
    | none => exact .inl rfl
    | some b => exact .inr fun e => by injection e with e; have := own_at2 ho hv; omega)
  exact ⟨hk _ _ _ _ _ h.rB, fun r hr => hk _ _ _ _ _ (h.pP r hr)⟩
theorem BuM.app {W W2 W9 : World} {base : Nat} {rows : List BdR} {vB v9 : Value} {x : BdR} (h : BuM W base rows vB) (hb : Below W.heap.size W W2) (hx : W2.ownsRow base 3 1 (.slice x.a x.cps.length x.c) x.cps.length (x.cps.map (Value.int .i64)))
    (hg : W2.grownBy W9 vB.ownBlock) (ho : W9.ownsRow base 94 5 v9 (rows ++ [x]).length ((rows ++ [x]).flatMap encB)) : BuM W9 base (rows ++ [x]) v9 := by
  have h2 := h.below hb
  have hk : ∀ (v : Value) (n : Nat) (xs : List Value), W2.ownsRow base 3 1 v n xs → W9.ownsRow base 3 1 v n xs := fun v n xs ho => ho.kept hg (own_own_ne ho h2.rB (by decide))
  refine ⟨ho, fun r hr => ?_⟩
  rcases List.mem_append.1 hr with hr | hr
  · exact hk _ _ _ (h2.pP r hr)
  · obtain rfl : r = x := by simpa using hr
    exact hk _ _ _ hx
end Go.Ml
