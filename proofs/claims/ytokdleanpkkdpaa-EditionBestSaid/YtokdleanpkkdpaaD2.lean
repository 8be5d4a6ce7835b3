/- Titles in memory; keys of maps in their order; conditions: none. -/
import Derived.Test.YtokdleanpkkdpaaD1
import Derived.Test.YtokdleanpkkdpaaA9
import Derived.Test.YtokdleanpkkdpaaSpecC
import Derived.Maps.OwnSet
set_option linter.unusedSimpArgs false
set_option linter.unusedVariables false
namespace Go.Fh
open Go.RowKit
section
variable {P : Program} {κ ν : Type} {ek : κ → Value} {ev : ν → Value} {w : World} {g : Nat} {m : List (κ × ν)}
theorem MapIs.size_ (h : MapIs ek ev w g m) {T K E : TypeId} (hT : P.underlying T = some (.map K E)) (ty : TypeId) : (Builtin.len_ #[T] ty #[.map (some g)]).run P w = .ok (.int .i64 m.length) w := by
  obtain ⟨es, c, hh, hm⟩ := h
  have : es.size = m.length := by
    have := congrArg List.length hm
    simpa using this
  simp [Builtin.len_, run_underlying hT, MapKept.run_getObj_map hh, goInt, Result.andThen, this]
theorem wpList_msize {ops : Array Oper} {rest : List Oper} {o : Oper} {a : Act} {Q : Exit → Act → World → Prop} (hgd : o.guard = none) (mx : Operand) (T : TypeId)
    (ho : o.op = Op.call { callee := Callee.builtin Builtin.len, args := #[mx], argTypes := #[T] }) {K E : TypeId} (hT : P.underlying T = some (.map K E)) (h : MapIs ek ev w g m) (hm : a.eval mx = .map (some g))
    (hK : wpList P ops Q rest (a.put o.dst (.int .i64 m.length)) w) : wpList P ops Q (o :: rest) a w := by
  refine wpList_plain hgd fun K' hK' => ?_
  unfold Oper.wp
  simp [execOp, ho, resolve, invoke, builtin, hm, h.size_ hT o.type, Result.andThen]
  exact hK' _ _ hK
end
section
variable {P : Program} {κ ν : Type} [DecidableEq κ] {ek : κ → Value} {ev : ν → Value} {w : World} {g : Nat} {m : List (κ × ν)}
theorem mset_keys (m : List (κ × ν)) (x : κ) (v : ν) : (mset m x v).map (·.1) = if x ∈ m.map (·.1) then m.map (·.1) else m.map (·.1) ++ [x] := by
  induction m with
  | nil => simp [mset]
  | cons p m ih =>
    obtain ⟨a, b⟩ := p
    by_cases h : x = a
    · subst h; simp [mset]
    · simp only [mset, if_neg h, List.map_cons, ih]
      by_cases h2 : x ∈ m.map (·.1)
      · rw [if_pos h2, if_pos (List.mem_cons_of_mem _ h2)]
      · rw [if_neg h2, if_neg (by simp only [List.mem_cons, not_or]; exact ⟨h, h2⟩)]; rfl
theorem mset_vals {n : Nat} {ν : Type} (m : List (ArrK n × ν)) (x : ArrK n) (v : ν) : (mset m x v).map (·.1.1) = if x.1 ∈ m.map (·.1.1) then m.map (·.1.1) else m.map (·.1.1) ++ [x.1] := by
  have e : ∀ l : List (ArrK n × ν), l.map (·.1.1) = (l.map (·.1)).map Subtype.val := fun l => by simp
  have hm : x.1 ∈ m.map (·.1.1) ↔ x ∈ m.map (·.1) := by
    rw [e]
    constructor
    · intro h
      obtain ⟨y, hy, hq⟩ := List.mem_map.1 h
      rw [← Subtype.ext hq]; exact hy
    · intro h; exact List.mem_map.2 ⟨x, h, rfl⟩
  rw [e, mset_keys]
  by_cases h : x ∈ m.map (·.1)
  · rw [if_pos h, if_pos (hm.2 h), e]
  · rw [if_neg h, if_neg (fun q => h (hm.1 q)), e]; simp
theorem mget_none_iff (m : List (κ × ν)) (x : κ) : mget m x = none ↔ x ∉ m.map (·.1) := by
  induction m with
  | nil => simp [mget]
  | cons p m ih =>
    obtain ⟨a, b⟩ := p
    by_cases h : x = a
    · subst h; simp [mget]
    · simp only [mget, if_neg h, ih, List.map_cons, List.mem_cons, not_or]
      exact ⟨fun q => ⟨h, q⟩, fun q => q.2⟩
end
theorem getD_bool (o : Option Bool) : (o.map Value.bool).getD (.bool false) = .bool (o.getD false) := by cases o <;> rfl
end Go.Fh
namespace Go.Ed
open Go.Fh Go.RowKit
abbrev ZonM := ZonD × (Option Go.Addr × Nat)
def encZon (z : ZonM) : List Go.Value := [.int .i64 z.1.copies, .int .i64 z.1.due, .slice z.2.1 z.1.variants.length z.2.2]
/-- a title lies in memory -/
structure TitAt (w : Go.World) (B : Nat) (t : TitD) (x : TA) (zs : List ZonM) : Prop where
  zeq : zs.map (·.1) = t.zones
  cA : Sl encInt 1 w B x.a t.colours
  cB : Sl encInt 1 w B x.b t.pairs
  cZ : Sl encZon 3 w B x.z zs
  cV : ∀ i (h : i < zs.length), Sl encInt 1 w B zs[i].2.1 zs[i].1.variants
  cR : Sl enc3 3 w B x.r t.ready
theorem TitAt.below {w w' : Go.World} {B : Nat} {t : TitD} {x : TA} {zs : List ZonM} (h : TitAt w B t x zs) (hb : Below B w w') : TitAt w' B t x zs :=
  ⟨h.zeq, h.cA.below hb, h.cB.below hb, h.cZ.below hb, fun i hi => (h.cV i hi).below hb, h.cR.below hb⟩
theorem TitAt.mono {w : Go.World} {B B' : Nat} {t : TitD} {x : TA} {zs : List ZonM} (h : TitAt w B t x zs) (hB : B ≤ B') : TitAt w B' t x zs :=
  ⟨h.zeq, h.cA.mono hB, h.cB.mono hB, h.cZ.mono hB, fun i hi => (h.cV i hi).mono hB, h.cR.mono hB⟩
theorem TitAt.zlen {w : Go.World} {B : Nat} {t : TitD} {x : TA} {zs : List ZonM} (h : TitAt w B t x zs) : zs.length = t.zones.length := by rw [← h.zeq]; simp
theorem TitAt.zget {w : Go.World} {B : Nat} {t : TitD} {x : TA} {zs : List ZonM} (h : TitAt w B t x zs) {k : Nat} (hk : k < zs.length) : t.zones.getD k ⟨0, 0, []⟩ = zs[k].1 := by
  rw [← h.zeq]; simp [hk]
/-- the lengths of a title's lists -/
structure Sizes (t : TitD) : Prop where
  s1 : t.colours.length ≤ 1000000000
  s2 : t.pairs.length ≤ 1000000000
  s3 : t.zones.length ≤ 1000000000
  s4 : t.ready.length ≤ 1000000000
  s5 : ∀ z ∈ t.zones, z.variants.length ≤ 1000000000
theorem padK_inj {l m : List Int} (h : l.length = m.length) (e : padK l = padK m) : l = m := by
  unfold padK at e
  exact (List.append_inj e h).1
theorem addZ_vars (es : List EdD) (i : Int) (z : ZonD) : (addZ es i z).map EdD.variants = if z.copies = 0 then es.map EdD.variants else if z.variants ∈ es.map EdD.variants then es.map EdD.variants else es.map EdD.variants ++ [z.variants] := by
  unfold addZ
  by_cases h0 : z.copies = 0
  · simp [h0]
  · rw [if_neg h0, if_neg h0]
    by_cases h1 : (es.any fun e => e.variants == z.variants) = true
    · rw [if_pos h1, if_pos]
      · rw [List.map_map]
        apply List.map_congr_left
        intro e _
        simp only [Function.comp]
        split <;> rfl
      · obtain ⟨e, he, h⟩ := List.any_eq_true.1 h1
        exact List.mem_map.2 ⟨e, he, by simpa using h⟩
    · rw [if_neg h1, if_neg]
      · simp
      · intro h
        obtain ⟨e, he, h⟩ := List.mem_map.1 h
        exact h1 (List.any_eq_true.2 ⟨e, he, by simpa using h⟩)
theorem edsN_from (t : TitD) (k : Nat) (hk : k ≤ t.zones.length) : ∀ e ∈ edsN t k, ∃ i, i < k ∧ e.variants = (t.zones.getD i ⟨0, 0, []⟩).variants ∧ (t.zones.getD i ⟨0, 0, []⟩).copies ≠ 0 := by
  induction k with
  | zero => intro e he; simp [edsN] at he
  | succ k ih =>
    intro e he
    have hv : e.variants ∈ (edsN t (k + 1)).map EdD.variants := List.mem_map.2 ⟨e, he, rfl⟩
    rw [edsN, addZ_vars] at hv
    have old : e.variants ∈ (edsN t k).map EdD.variants → ∃ i, i < k + 1 ∧ e.variants = (t.zones.getD i ⟨0, 0, []⟩).variants ∧ (t.zones.getD i ⟨0, 0, []⟩).copies ≠ 0 := by
      intro h
      obtain ⟨e', he', hq⟩ := List.mem_map.1 h
      obtain ⟨i, h1, h2, h3⟩ := ih (by omega) e' he'
      exact ⟨i, by omega, by rw [← hq, h2], h3⟩
    split at hv
    · exact old hv
    · rename_i hc
      split at hv
      · exact old hv
      · rcases List.mem_append.1 hv with h | h
        · exact old h
        · simp only [List.mem_singleton] at h
          exact ⟨k, by omega, h, hc⟩
theorem errZ_ok {t : TitD} {z : ZonD} (h : errZ t z = 0) : (0 ≤ z.copies ∧ z.copies ≤ 1000000) ∧ (0 ≤ z.due ∧ z.due ≤ 86400) ∧ z.variants.length = t.colours.length ∧ ∀ v ∈ z.variants, 0 ≤ v ∧ v ≤ 9 := by
  unfold errZ at h
  split at h
  · cases h
  · rename_i h1
    split at h
    · cases h
    · rename_i h2
      simp only [Bool.or_eq_true, not_or, Bool.not_eq_true, Bool.not_eq_false'] at h1
      refine ⟨inB_iff.1 h1.1, inB_iff.1 h1.2, ?_, ?_⟩
      · rw [Bool.not_eq_true, Bool.or_eq_false_iff] at h2; simpa using h2.1
      · intro v hv
        refine inB_iff.1 ?_
        cases hb : inB v 0 9
        · rw [Bool.not_eq_true, Bool.or_eq_false_iff] at h2
          have := List.any_eq_false.1 h2.2 v hv
          simp [hb] at this
        · rfl
/-- the keys of the map of editions after so many zones -/
def keysN (t : TitD) (k : Nat) : List (List Int) := (edsN t k).map fun e => padK e.variants
theorem keysN_len (t : TitD) (k : Nat) : (keysN t k).length = (edsN t k).length := by simp [keysN]
theorem keysN_succ {t : TitD} {k : Nat} (hk : k < t.zones.length) (hz : ∀ i, i ≤ k → (t.zones.getD i ⟨0, 0, []⟩).variants.length = t.colours.length) :
    keysN t (k + 1) = if (t.zones.getD k ⟨0, 0, []⟩).copies = 0 then keysN t k else if padK (t.zones.getD k ⟨0, 0, []⟩).variants ∈ keysN t k then keysN t k else keysN t k ++ [padK (t.zones.getD k ⟨0, 0, []⟩).variants] := by
  have e0 : ∀ k, keysN t k = ((edsN t k).map EdD.variants).map padK := by intro k; simp [keysN]
  rw [e0, e0, edsN, addZ_vars]
  split
  · rfl
  · rename_i hc
    have hm : (padK (t.zones.getD k ⟨0, 0, []⟩).variants ∈ ((edsN t k).map EdD.variants).map padK) ↔ ((t.zones.getD k ⟨0, 0, []⟩).variants ∈ (edsN t k).map EdD.variants) := by
      constructor
      · intro h
        obtain ⟨v, hv, hq⟩ := List.mem_map.1 h
        obtain ⟨e, he, rfl⟩ := List.mem_map.1 hv
        obtain ⟨i, h1, h2, _⟩ := edsN_from t k (by omega) e he
        have : e.variants = (t.zones.getD k ⟨0, 0, []⟩).variants := padK_inj (by rw [h2, hz i (by omega), hz k (Nat.le_refl _)]) hq
        rw [← this]; exact hv
      · intro h; exact List.mem_map.2 ⟨_, h, rfl⟩
    by_cases h : (t.zones.getD k ⟨0, 0, []⟩).variants ∈ (edsN t k).map EdD.variants
    · rw [if_pos h, if_pos (hm.2 h)]
    · rw [if_neg h, if_neg (fun x => h (hm.1 x))]; simp
end Go.Ed
