/- Check and open of layer 3; conditions: lengths that a title has. Turned from another seat by a program. -/
import Derived.Test.YtnbnfadmbggfnaaZA
import Derived.Deep.AppendLies
import Derived.Deep.CutRange
import Derived.Deep.DeepCutAuto
import Derived.Deep.Draws
import Derived.Deep.MidRow
import Derived.Deep.Onto
import Derived.Deep.OwnRows
import Derived.Deep.RegionHeld3
import Derived.Maps.OwnSet
import Derived.Outline
set_option linter.unusedSimpArgs false
set_option linter.unusedVariables false
namespace Go.Fh
open Go.RowKit
theorem blk_setCells {g : Nat} {t : TypeId} : ∀ (vs : List Value) (o : Nat) (w : World) (a : Array Value), Blk w g t a → ∃ a', Blk (w.setCells g o vs) g t a' ∧ a'.size = a.size
  | [], _, _, a, h => ⟨a, h, rfl⟩
  | v :: vs, o, w, a, h => by
    obtain ⟨a', h1, h2⟩ := blk_setCells vs (o + 1) _ _ (h.set_ o v)
    exact ⟨a', h1, by simpa using h2⟩
theorem Blk.setAll {w : World} {g : Nat} {t : TypeId} {a cs : Array Value} (h : Blk w g t a) (hs : cs.size = a.size) : Blk (w.setCells g 0 cs.toList) g t cs := by
  obtain ⟨a', h1, h2⟩ := blk_setCells cs.toList 0 w a h
  have : a' = cs := by
    apply Array.ext (by omega)
    intro i hi1 hi2
    have hin := World.cell?_setCells_in g cs.toList 0 w (fun j hj => by
      rw [Nat.zero_add, h.cell]; simp at hj; simp [show j < a.size by omega]) i (by simpa using hi2)
    rw [Nat.zero_add, h1.cell] at hin
    simpa [hi1, hi2] using hin
  rw [this] at h1; exact h1
theorem setCells_below {B : Nat} {w0 : World} {g : Nat} (hg : B ≤ g) : ∀ (vs : List Value) (o : Nat) (w : World), Below B w0 w → Below B w0 (w.setCells g o vs)
  | [], _, _, h => h
  | v :: vs, o, w, h => setCells_below hg vs (o + 1) _ (h.setCell (p := ⟨g, o, none⟩) hg v)
theorem Blk.there {w : World} {g : Nat} {t : TypeId} {a : Array Value} (h : Blk w g t a) {n : Nat} (hn : n ≤ a.size) : w.there g 0 n := fun j hj => ⟨by rw [Nat.zero_add, h.cell]; simp [show j < a.size by omega], h.frozen _⟩
end Go.Fh
namespace Go.Ed
def padK (l : List Int) : List Int := l ++ List.replicate (64 - l.length) 0
/-- the cells of the key after k variants -/
def keyC (l : List Int) (k : Nat) : Array Go.Value := ((l.take k ++ List.replicate (64 - k) 0).map (Go.Value.int .i8)).toArray
theorem padK_len {l : List Int} (h : l.length ≤ 64) : (padK l).length = 64 := by simp [padK]; omega
theorem keyC_size {l : List Int} {k : Nat} (h : l.length ≤ 64) (hk : k ≤ l.length) : (keyC l k).size = 64 := by simp [keyC]; omega
theorem keyC_get {l : List Int} {k : Nat} (h : l.length ≤ 64) (hk : k < l.length) : (keyC l k)[k]? = some (.int .i8 0) := by
  simp only [keyC, List.getElem?_toArray, List.getElem?_map]
  rw [List.getElem?_append_right (by simp; omega)]
  simp [List.getElem?_replicate]
  omega
theorem keyC_next {l : List Int} {k : Nat} (h : l.length ≤ 64) (hk : k < l.length) : (keyC l k).setIfInBounds k (.int .i8 l[k]) = keyC l (k + 1) := by
  simp only [keyC, List.setIfInBounds_toArray]
  congr 1
  rw [List.take_succ_eq_append_getElem hk, show 64 - k = (64 - (k + 1)) + 1 by omega, List.replicate_succ]
  simp only [List.map_append, List.map_cons, List.map_nil, List.append_assoc, List.cons_append, List.nil_append]
  rw [List.set_append_right _ _ (by simp; omega)]
  simp [show k - min k l.length = 0 by omega]
theorem keyC_all {l : List Int} (h : l.length ≤ 64) : keyC l l.length = ((padK l).map (Go.Value.int .i8)).toArray := by simp [keyC, padK]
end Go.Ed
namespace Go.Proofs.Ytnbnfadmbggfnaa
open Go.RowKit Go.Fh Go.Ed
theorem info164 : (Try.prog.info? 197).map (·.size) = some 64 := by kernel_rfl
set_option maxRecDepth 20000 in
set_option maxHeartbeats 2000000 in
theorem keyOf_any (A : Option Addr) (c : Nat) (l : List Int) (w : World) (hl : l.length ≤ 64) (hv : ∀ v ∈ l, 0 ≤ v ∧ v ≤ 9) (hA : Sl encInt 1 w w.heap.size A l) :
    Calls Try.prog 118 #[.slice A l.length c] w fun e w' => e = .returned (arrV .i8 (padK l)) ∧ Below w.heap.size w w' := by
  have HA := Lib.hid hA
  have HV := Lib.hid hv
  clear hA hv
  obtain ⟨gR, hgR⟩ : ∃ g, g = w.heap.size := ⟨_, rfl⟩
  obtain ⟨gK, hgK⟩ : ∃ g, g = w.heap.size + 1 := ⟨_, rfl⟩
  have HR := Lib.hid hgR
  have HK := Lib.hid hgK
  go_enter Try.func118, Try.ntmps118
  go_wp2_with fail
  rw [← hgK, ← hgR]
  generalize hW : World.alloc (World.alloc w _) _ = W0
  have kR : Blk W0 gR 197 (keyC l 0) := by
    rw [← hW, hgR]
    exact (Blk.new w 197 _).alloc _
  have kK : Blk W0 gK 197 (keyC l 0) := by
    rw [← hW, hgK]
    have := Blk.new (w.alloc (.cells (keyC l 0) 197)) 197 (keyC l 0)
    rw [World.size_alloc] at this
    exact this
  have hb : Below w.heap.size w W0 := by rw [← hW]; exact ((Below.refl _ _).alloc (Nat.le_refl _) _).alloc (by simp) _
  have KR := Lib.hid kR
  have KK := Lib.hid kK
  have HB := Lib.hid hb
  clear kR kK hb hW hgR hgK
  go_loopw [8] (fun i wr => ∃ k : Nat, k ≤ l.length ∧ i = .int .i64 k ∧ Hid (Blk wr gK 197 (keyC l k)) ∧ Below gK W0 wr) (fun i _ => l.length - (intOf i).toNat)
  case atStart => exact ⟨0, Nat.zero_le _, rfl, KK, Below.refl _ _⟩
  case round =>
    obtain ⟨k, hk, rfl, HKr, hW⟩ := hrel
    have hge : w.heap.size ≤ gK := by rw [HK.out]; omega
    have hbw : Below w.heap.size w wr := HB.out.trans (hW.mono hge)
    by_cases hlt : k < l.length
    · obtain ⟨b, off, rfl, hb, c0⟩ := (HA.out.below hbw).at1 hlt
      have hvk := HV.out _ (List.getElem_mem hlt)
      obtain ⟨v, hv⟩ : ∃ v, v = l[k] := ⟨_, rfl⟩
      rw [← hv] at c0 hvk
      have f1 := IntWalk.i8_in v (by omega)
      have z0 := HKr.out.frozen k
      have z1 := (HKr.out.cell k).trans (keyC_get hl hlt)
      have hgz : k < 64 := by omega
      have HV2 := Lib.hid hv
      clear hv hvk
      go_wp2_with fail
      go_roundw
      case rel =>
        refine ⟨k + 1, by omega, by go_num, ?_, hW.setCell (by exact Nat.le_refl _) _⟩
        have := HKr.out.set_ k (.int .i8 v)
        rw [HV2.out, keyC_next hl hlt, ← HV2.out] at this
        exact this
      case measure => simp [intOf]; omega
    · obtain rfl : k = l.length := by omega
      have hkk := HKr.out
      rw [keyC_all hl] at hkk
      have hrr := KR.out.below hW (by rw [HR.out, HK.out]; omega)
      obtain ⟨cs, hcs⟩ : ∃ cs, cs = ((padK l).map (Value.int .i8)).toArray := ⟨_, rfl⟩
      have hsz : cs.size = 64 := by rw [hcs]; simp [padK]; omega
      have hone : cs.all (·.oneCell') = true := by rw [hcs]; exact all_oneCell_toArray (by intro v hv; simp at hv; obtain ⟨a, _, rfl⟩ := hv; rfl)
      rw [← hcs] at hkk
      have hfin := hrr.setAll (cs := cs) (by rw [hsz, keyC_size hl (Nat.zero_le _)])
      have hth := hrr.there (n := cs.size) (by rw [hsz, keyC_size hl (Nat.zero_le _)]; omega)
      have hbf := setCells_below (g := gR) (by rw [HR.out]; exact Nat.le_refl _) cs.toList 0 wr hbw
      have HSZ := Lib.hid hsz
      have HCS := Lib.hid hcs
      have HBF := Lib.hid hbf
      have HFIN := Lib.hid hfin
      have HTH := Lib.hid hth
      have HONE := Lib.hid hone
      have HKK := Lib.hid hkk
      clear hsz hcs hbf hfin hth hone hkk hrr hbw hW
      go_wp2_with first
        | (refine wpList_load_row rfl 197 _ rfl gK rfl 197 cs (0, 0) _ HKK.out Try.underlying197 rfl (by rw [HSZ.out]; exact info164) ?_)
        | (refine wpList_store_mid rfl 197 _ _ rfl gR 0 cs rfl rfl HTH.out (by rw [HSZ.out]; exact info164) HONE.out ?_)
      refine bodyPost_ret (v := .agg cs) (results_cell_row rfl _ _ gR 197 cs (0, 0) _ rfl HFIN.out Try.underlying197 rfl (by rw [HSZ.out]; exact info164)) rfl ⟨by rw [HCS.out]; rfl, HBF.out⟩
end Go.Proofs.Ytnbnfadmbggfnaa
namespace Go.Fh
open Go.RowKit
section
variable {P : Program} {κ ν : Type} {ek : κ → Value} {ev : ν → Value} {w : World} {g : Nat} {m : List (κ × ν)}
theorem MapIs.size_ (h : MapIs ek ev w g m) {T K E : TypeId} (hT : P.underlying T = some (.map K E)) (ty : TypeId) : (Builtin.len_ #[T] ty #[.map (some g)]).run P w = .ok (.int .i64 m.length) w := by
  obtain ⟨es, c, hh, hm⟩ := h
  have : es.size = m.length := by
    have := congrArg List.length hm
    simpa using this
  simp [Builtin.len_, run_underlying hT, MapKept.run_getObj_map hh, goInt, Result.andThen, this]
theorem wpList_msize {ops : Array Oper} {rest : List Oper} {o : Oper} {a : Act} {Q : Exit → Act → World → Prop} (hgd : o.guard = none) (mx : Operand) (T : TypeId)
    (ho : o.op = Op.call { callee := Callee.builtin Builtin.len, args := #[mx], argTypes := #[T] }) {K E : TypeId} (hT : P.underlying T = some (.map K E)) (h : MapIs ek ev w g m) (hm : a.eval mx = .map (some g))
    (hK : wpList P ops Q rest (a.put o.dst (.int .i64 m.length)) w) : wpList P ops Q (o :: rest) a w := by
  refine wpList_plain hgd fun K' hK' => ?_
  unfold Oper.wp
  simp [execOp, ho, resolve, invoke, builtin, hm, h.size_ hT o.type, Result.andThen]
  exact hK' _ _ hK
end
section
variable {P : Program} {κ ν : Type} [DecidableEq κ] {ek : κ → Value} {ev : ν → Value} {w : World} {g : Nat} {m : List (κ × ν)}
theorem mset_keys (m : List (κ × ν)) (x : κ) (v : ν) : (mset m x v).map (·.1) = if x ∈ m.map (·.1) then m.map (·.1) else m.map (·.1) ++ [x] := by
  induction m with
  | nil => simp [mset]
  | cons p m ih =>
    obtain ⟨a, b⟩ := p
    by_cases h : x = a
    · subst h; simp [mset]
    · simp only [mset, if_neg h, List.map_cons, ih]
      by_cases h2 : x ∈ m.map (·.1)
      · rw [if_pos h2, if_pos (List.mem_cons_of_mem _ h2)]
      · rw [if_neg h2, if_neg (by simp only [List.mem_cons, not_or]; exact ⟨h, h2⟩)]; rfl
theorem mset_vals {n : Nat} {ν : Type} (m : List (ArrK n × ν)) (x : ArrK n) (v : ν) : (mset m x v).map (·.1.1) = if x.1 ∈ m.map (·.1.1) then m.map (·.1.1) else m.map (·.1.1) ++ [x.1] := by
  have e : ∀ l : List (ArrK n × ν), l.map (·.1.1) = (l.map (·.1)).map Subtype.val := fun l => by simp
  have hm : x.1 ∈ m.map (·.1.1) ↔ x ∈ m.map (·.1) := by
    rw [e]
    constructor
    · intro h
      obtain ⟨y, hy, hq⟩ := List.mem_map.1 h
      rw [← Subtype.ext hq]; exact hy
    · intro h; exact List.mem_map.2 ⟨x, h, rfl⟩
  rw [e, mset_keys]
  by_cases h : x ∈ m.map (·.1)
  · rw [if_pos h, if_pos (hm.2 h), e]
  · rw [if_neg h, if_neg (fun q => h (hm.1 q)), e]; simp
theorem mget_none_iff (m : List (κ × ν)) (x : κ) : mget m x = none ↔ x ∉ m.map (·.1) := by
  induction m with
  | nil => simp [mget]
  | cons p m ih =>
    obtain ⟨a, b⟩ := p
    by_cases h : x = a
    · subst h; simp [mget]
    · simp only [mget, if_neg h, ih, List.map_cons, List.mem_cons, not_or]
      exact ⟨fun q => ⟨h, q⟩, fun q => q.2⟩
end
theorem getD_boolZ (o : Option Bool) : (o.map Value.bool).getD (.bool false) = .bool (o.getD false) := by cases o <;> rfl
end Go.Fh
namespace Go.Ed
open Go.Fh Go.RowKit
abbrev ZonM := ZonD × (Option Go.Addr × Nat)
def encZon (z : ZonM) : List Go.Value := [.int .i64 z.1.copies, .int .i64 z.1.due, .slice z.2.1 z.1.variants.length z.2.2]
/-- a title lies in memory -/
structure TitAt (w : Go.World) (B : Nat) (t : TitD) (x : TA) (zs : List ZonM) : Prop where
  zeq : zs.map (·.1) = t.zones
  cA : Sl encInt 1 w B x.a t.colours
  cB : Sl encInt 1 w B x.b t.pairs
  cZ : Sl encZon 3 w B x.z zs
  cV : ∀ i (h : i < zs.length), Sl encInt 1 w B zs[i].2.1 zs[i].1.variants
  cR : Sl enc3 3 w B x.r t.ready
theorem TitAt.below {w w' : Go.World} {B : Nat} {t : TitD} {x : TA} {zs : List ZonM} (h : TitAt w B t x zs) (hb : Below B w w') : TitAt w' B t x zs :=
  ⟨h.zeq, h.cA.below hb, h.cB.below hb, h.cZ.below hb, fun i hi => (h.cV i hi).below hb, h.cR.below hb⟩
theorem TitAt.mono {w : Go.World} {B B' : Nat} {t : TitD} {x : TA} {zs : List ZonM} (h : TitAt w B t x zs) (hB : B ≤ B') : TitAt w B' t x zs :=
  ⟨h.zeq, h.cA.mono hB, h.cB.mono hB, h.cZ.mono hB, fun i hi => (h.cV i hi).mono hB, h.cR.mono hB⟩
theorem TitAt.zlen {w : Go.World} {B : Nat} {t : TitD} {x : TA} {zs : List ZonM} (h : TitAt w B t x zs) : zs.length = t.zones.length := by rw [← h.zeq]; simp
theorem TitAt.zget {w : Go.World} {B : Nat} {t : TitD} {x : TA} {zs : List ZonM} (h : TitAt w B t x zs) {k : Nat} (hk : k < zs.length) : t.zones.getD k ⟨0, 0, []⟩ = zs[k].1 := by
  rw [← h.zeq]; simp [hk]
/-- the lengths of a title's lists -/
structure Sizes (t : TitD) : Prop where
  s1 : t.colours.length ≤ 1000000000
  s2 : t.pairs.length ≤ 1000000000
  s3 : t.zones.length ≤ 1000000000
  s4 : t.ready.length ≤ 1000000000
  s5 : ∀ z ∈ t.zones, z.variants.length ≤ 1000000000
theorem padK_inj {l m : List Int} (h : l.length = m.length) (e : padK l = padK m) : l = m := by
  unfold padK at e
  exact (List.append_inj e h).1
theorem addZ_vars (es : List EdD) (i : Int) (z : ZonD) : (addZ es i z).map EdD.variants = if z.copies = 0 then es.map EdD.variants else if z.variants ∈ es.map EdD.variants then es.map EdD.variants else es.map EdD.variants ++ [z.variants] := by
  unfold addZ
  by_cases h0 : z.copies = 0
  · simp [h0]
  · rw [if_neg h0, if_neg h0]
    by_cases h1 : (es.any fun e => e.variants == z.variants) = true
    · rw [if_pos h1, if_pos]
      · rw [List.map_map]
        apply List.map_congr_left
        intro e _
        simp only [Function.comp]
        split <;> rfl
      · obtain ⟨e, he, h⟩ := List.any_eq_true.1 h1
        exact List.mem_map.2 ⟨e, he, by simpa using h⟩
    · rw [if_neg h1, if_neg]
      · simp
      · intro h
        obtain ⟨e, he, h⟩ := List.mem_map.1 h
        exact h1 (List.any_eq_true.2 ⟨e, he, by simpa using h⟩)
theorem edsN_from (t : TitD) (k : Nat) (hk : k ≤ t.zones.length) : ∀ e ∈ edsN t k, ∃ i, i < k ∧ e.variants = (t.zones.getD i ⟨0, 0, []⟩).variants ∧ (t.zones.getD i ⟨0, 0, []⟩).copies ≠ 0 := by
  induction k with
  | zero => intro e he; simp [edsN] at he
  | succ k ih =>
    intro e he
    have hv : e.variants ∈ (edsN t (k + 1)).map EdD.variants := List.mem_map.2 ⟨e, he, rfl⟩
    rw [edsN, addZ_vars] at hv
    have old : e.variants ∈ (edsN t k).map EdD.variants → ∃ i, i < k + 1 ∧ e.variants = (t.zones.getD i ⟨0, 0, []⟩).variants ∧ (t.zones.getD i ⟨0, 0, []⟩).copies ≠ 0 := by
      intro h
      obtain ⟨e', he', hq⟩ := List.mem_map.1 h
      obtain ⟨i, h1, h2, h3⟩ := ih (by omega) e' he'
      exact ⟨i, by omega, by rw [← hq, h2], h3⟩
    split at hv
    · exact old hv
    · rename_i hc
      split at hv
      · exact old hv
      · rcases List.mem_append.1 hv with h | h
        · exact old h
        · simp only [List.mem_singleton] at h
          exact ⟨k, by omega, h, hc⟩
theorem errZ_ok {t : TitD} {z : ZonD} (h : errZ t z = 0) : (0 ≤ z.copies ∧ z.copies ≤ 1000000) ∧ (0 ≤ z.due ∧ z.due ≤ 86400) ∧ z.variants.length = t.colours.length ∧ ∀ v ∈ z.variants, 0 ≤ v ∧ v ≤ 9 := by
  unfold errZ at h
  split at h
  · cases h
  · rename_i h1
    split at h
    · cases h
    · rename_i h2
      simp only [Bool.or_eq_true, not_or, Bool.not_eq_true, Bool.not_eq_false'] at h1
      refine ⟨inB_iffZ.1 h1.1, inB_iffZ.1 h1.2, ?_, ?_⟩
      · rw [Bool.not_eq_true, Bool.or_eq_false_iff] at h2; simpa using h2.1
      · intro v hv
        refine inB_iffZ.1 ?_
        cases hb : inBZ v 0 9
        · rw [Bool.not_eq_true, Bool.or_eq_false_iff] at h2
          have := List.any_eq_false.1 h2.2 v hv
          simp [hb] at this
        · rfl
/-- the keys of the map of editions after so many zones -/
def keysN (t : TitD) (k : Nat) : List (List Int) := (edsN t k).map fun e => padK e.variants
theorem keysN_len (t : TitD) (k : Nat) : (keysN t k).length = (edsN t k).length := by simp [keysN]
theorem keysN_succ {t : TitD} {k : Nat} (hk : k < t.zones.length) (hz : ∀ i, i ≤ k → (t.zones.getD i ⟨0, 0, []⟩).variants.length = t.colours.length) :
    keysN t (k + 1) = if (t.zones.getD k ⟨0, 0, []⟩).copies = 0 then keysN t k else if padK (t.zones.getD k ⟨0, 0, []⟩).variants ∈ keysN t k then keysN t k else keysN t k ++ [padK (t.zones.getD k ⟨0, 0, []⟩).variants] := by
  have e0 : ∀ k, keysN t k = ((edsN t k).map EdD.variants).map padK := by intro k; simp [keysN]
  rw [e0, e0, edsN, addZ_vars]
  split
  · rfl
  · rename_i hc
    have hm : (padK (t.zones.getD k ⟨0, 0, []⟩).variants ∈ ((edsN t k).map EdD.variants).map padK) ↔ ((t.zones.getD k ⟨0, 0, []⟩).variants ∈ (edsN t k).map EdD.variants) := by
      constructor
      · intro h
        obtain ⟨v, hv, hq⟩ := List.mem_map.1 h
        obtain ⟨e, he, rfl⟩ := List.mem_map.1 hv
        obtain ⟨i, h1, h2, _⟩ := edsN_from t k (by omega) e he
        have : e.variants = (t.zones.getD k ⟨0, 0, []⟩).variants := padK_inj (by rw [h2, hz i (by omega), hz k (Nat.le_refl _)]) hq
        rw [← this]; exact hv
      · intro h; exact List.mem_map.2 ⟨_, h, rfl⟩
    by_cases h : (t.zones.getD k ⟨0, 0, []⟩).variants ∈ (edsN t k).map EdD.variants
    · rw [if_pos h, if_pos (hm.2 h)]
    · rw [if_neg h, if_neg (fun x => h (hm.1 x))]; simp
end Go.Ed
namespace Go.Ed
/-- whether so many of the ready have the page and the variant -/
def hasR (l : List (Int × Int × Int)) (k : Nat) (x : List Int) : Bool := (l.take k).any fun q => decide ([q.1, q.2.1] = x)
theorem hasR_metR (l : List (Int × Int × Int)) (k : Nat) (a b c : Int) : hasR l k [a, b] = metR l k (a, b, c) := by
  unfold hasR metR
  congr 1; funext q
  rw [Bool.eq_iff_iff]; simp
theorem hasR_succ {l : List (Int × Int × Int)} {k : Nat} (hk : k < l.length) (x : List Int) : hasR l (k + 1) x = (hasR l k x || decide ([l[k].1, l[k].2.1] = x)) := by
  unfold hasR
  rw [List.take_succ_eq_append_getElem hk, List.any_append]; simp
theorem or4 (a b c d : Bool) : (a = false ∨ (a = true ∧ b = false) ∨ (a = true ∧ b = true ∧ c = false) ∨ (a = true ∧ b = true ∧ c = true ∧ d = false)) ∨ (a = true ∧ b = true ∧ c = true ∧ d = true) := by
  cases a <;> cases b <;> cases c <;> cases d <;> simp
end Go.Ed
namespace Go.Proofs.Ytnbnfadmbggfnaa
open Go.RowKit Go.Fh Go.Ed
theorem zero4Z : ∀ w, (zeroValue 4).run Try.prog w = .ok (.bool false) w := fun w => by kernel_rfl
theorem Sl.atZon {B : Nat} {w : World} {A : Option Addr} {l : List ZonM} (h : Sl encZon 3 w B A l) {k : Nat} (hk : k < l.length) :
    ∃ b off, A = some ⟨b, off, none⟩ ∧ b < B ∧ w.cell? ⟨b, off + k * 3, none⟩ = some (.int .i64 l[k].1.copies) ∧ w.cell? ⟨b, off + k * 3 + 1, none⟩ = some (.int .i64 l[k].1.due) ∧ w.cell? ⟨b, off + k * 3 + 2, none⟩ = some (.slice l[k].2.1 l[k].1.variants.length l[k].2.2) := by
  obtain ⟨b, off, hA, hb, hc⟩ := h.at_ hk
  exact ⟨b, off, hA, hb, hc 0 _ rfl, hc 1 _ rfl, hc 2 _ rfl⟩
theorem keyLaw162 : KeyLaw Try.prog 197 (fun x : ArrK 64 => arrV .i8 x.1) := by
  obtain ⟨i, hi⟩ : ∃ i, Try.prog.info? 195 = some i := by
    have h0 : (Try.prog.info? 195).map (fun i => i.size) = some 1 := by kernel_rfl
    cases h : Try.prog.info? 195 with
    | some i => exact ⟨i, rfl⟩
    | none => rw [h] at h0; cases h0
  exact keyLaw_arr Try.underlying197 hi (by kernel_rfl) Try.underlying195
theorem keyLaw166 : KeyLaw Try.prog 214 (fun x : ArrK 2 => arrV .i64 x.1) := by
  obtain ⟨i, hi⟩ : ∃ i, Try.prog.info? 3 = some i := by
    have h0 : (Try.prog.info? 3).map (fun i => i.size) = some 1 := by kernel_rfl
    cases h : Try.prog.info? 3 with
    | some i => exact ⟨i, rfl⟩
    | none => rw [h] at h0; cases h0
  exact keyLaw_arr Try.underlying214 hi (by kernel_rfl) Try.underlying3
set_option maxRecDepth 20000 in
set_option maxHeartbeats 8000000 in
theorem check_anyZ (t : TitD) (x : TA) (zs : List ZonM) (w : World) (hs : Sizes t) (hT : TitAt w w.heap.size t x zs) :
    Calls Try.prog 117 #[.agg (titV t x)] w fun e w' => e = .returned (.int .i64 (checkT t)) ∧ Below w.heap.size w w' := by
  obtain ⟨w1, hw1⟩ : ∃ W, W = w.alloc (.cells (titV t x) 86) := ⟨_, rfl⟩
  have hb1 : Below w.heap.size w w1 := by rw [hw1]; exact (Below.refl _ _).alloc (Nat.le_refl _) _
  obtain ⟨gT, hgT⟩ : ∃ g, g = w.heap.size := ⟨_, rfl⟩
  have kT : Blk w1 gT 86 (titV t x) := by rw [hw1, hgT]; exact Blk.new _ _ _
  have hT1 := (hT.below hb1).mono hb1.size
  have s1 := hs.s1
  have s2 := hs.s2
  have s3 := hs.s3
  have s4 := hs.s4
  have hgl : gT < w1.heap.size := kT.lt
  have r0 := kT.cell 0
  have r1 := kT.cell 1
  have r2 := kT.cell 2
  have r3 := kT.cell 3
  have r4 := kT.cell 4
  have r5 := kT.cell 5
  have r6 := kT.cell 6
  have r7 := kT.cell 7
  simp [titV] at r0 r1 r2 r3 r4 r5 r6 r7
  have HA1 := Lib.hid hT1.cA
  have HBB1 := Lib.hid hT1.cB
  have HT1 := Lib.hid hT1
  have HB1 := Lib.hid hb1
  have HW1 := Lib.hid hw1
  have HGT := Lib.hid hgT
  have KT := Lib.hid kT
  have HS := Lib.hid hs
  clear hb1 hw1 hgT kT hT hT1 hs
  rcases or4 (inBZ t.colours.length 1 64) (inBZ t.zones.length 1 12) (!decide (200 < t.ready.length)) true with (h1 | ⟨h1, h2⟩ | ⟨h1, h2, h3⟩ | ⟨_, _, _, h4⟩) | ⟨h1, h2, h3, _⟩
  case inl.inl | inl.inr.inl | inl.inr.inr.inl =>
    all_goals
      have hc : checkT t = 2 := by unfold checkT; rw [if_pos (by simp_all)]
      have HC := Lib.hid hc
      try have h3' : 200 < t.ready.length := by simpa using h3
      clear hc
      unfold titV at *
      go_enter Try.func117, Try.ntmps117
      go_upto_region 1 with fail
      rw [← HW1.out, ← HGT.out]
      go_wp2_with (go_at_call 132; refine (within_anyZ _ _ _ _).mono ?_; rintro e w' ⟨rfl, rfl⟩)
      go_ret
      exact ⟨ret_int HC.out.symm, HB1.out⟩
  · cases h4
  have h3' : t.ready.length ≤ 200 := by simpa using h3
  have hq1 := inB_iffZ.1 h1
  have hq2 := inB_iffZ.1 h2
  have hc0 : checkT t = (if !inBZ t.start 0 86400 || (!inBZ t.rate 1 3000 || (!inBZ t.stop 0 3600 || !inBZ t.hang 0 3600)) then 6
      else if t.colours.any (fun c => !inBZ c 1 4) || !pairedB t then 21
      else if firstErrZ (fun k => errZ t (t.zones.getD k ⟨0, 0, []⟩)) t.zones.length ≠ 0 then firstErrZ (fun k => errZ t (t.zones.getD k ⟨0, 0, []⟩)) t.zones.length
      else if firstErrZ (errR t) t.ready.length ≠ 0 then firstErrZ (errR t) t.ready.length
      else if (edsN t t.zones.length).length = 0 then 4
      else if 7 < (edsN t t.zones.length).length then 8
      else 0) := by unfold checkT; rw [if_neg (by simp [h1, h2, h3'])]
  have HC0 := Lib.hid hc0
  clear hc0 h3
  rcases or4 (inBZ t.start 0 86400) (inBZ t.rate 1 3000) (inBZ t.stop 0 3600) (inBZ t.hang 0 3600) with (q1 | ⟨q1, q2⟩ | ⟨q1, q2, q3⟩ | ⟨q1, q2, q3, q4⟩) | ⟨q1, q2, q3, q4⟩
  case inl.inl | inl.inr.inl | inl.inr.inr.inl | inl.inr.inr.inr =>
    all_goals
      have hc : checkT t = 6 := by rw [HC0.out, if_pos (by simp_all)]
      have HC := Lib.hid hc
      clear hc
      unfold titV at *
      go_enter Try.func117, Try.ntmps117
      go_upto_region 1 with fail
      rw [← HW1.out, ← HGT.out]
      go_wp2_with (go_at_call 132; refine (within_anyZ _ _ _ _).mono ?_; rintro e w' ⟨rfl, rfl⟩)
      go_ret
      exact ⟨ret_int HC.out.symm, HB1.out⟩
  have hc0 := HC0.out
  rw [if_neg (by simp [q1, q2, q3, q4])] at hc0
  clear HC0
  have HC0 := Lib.hid hc0
  clear hc0
  cases p1 : t.colours.any (fun c => !inBZ c 1 4)
  rotate_left
  · have hc : checkT t = 21 := by rw [HC0.out, if_pos (by simp [p1])]
    have HC := Lib.hid hc
    have HP1 := Lib.hid p1
    clear hc p1
    unfold titV at *
    go_enter Try.func117, Try.ntmps117
    go_upto_region 1 with fail
    rw [← HW1.out, ← HGT.out]
    go_wp2_with first
      | (go_at_call 132; refine (within_anyZ _ _ _ _).mono ?_; rintro e w' ⟨rfl, rfl⟩)
      | (go_at_call 56; refine (badColour_any _ _ _ _ (by omega) HA1.out).mono ?_; rintro e w2 ⟨rfl, hb2⟩; have k2 := KT.out.below hb2 hgl; clear r0 r1 r2 r3 r4 r5 r6 r7; have r0 := k2.cell 0; have r1 := k2.cell 1; have r2 := k2.cell 2; have r3 := k2.cell 3; have r4 := k2.cell 4; have r5 := k2.cell 5; have r6 := k2.cell 6; have r7 := k2.cell 7; simp at r0 r1 r2 r3 r4 r5 r6 r7; have HB2 := Lib.hid hb2; clear hb2 k2; rw [HP1.out])
    go_ret
    exact ⟨ret_int HC.out.symm, HB1.out.trans (HB2.out.mono HB1.out.size)⟩
  have HP1 := Lib.hid p1
  clear p1
  cases p2 : pairedB t
  · have hc : checkT t = 21 := by rw [HC0.out, if_pos (by simp [p2])]
    have HC := Lib.hid hc
    have HP2 := Lib.hid p2
    clear hc p2
    unfold titV at *
    go_enter Try.func117, Try.ntmps117
    go_upto_region 1 with fail
    rw [← HW1.out, ← HGT.out]
    go_wp2_with first
      | (go_at_call 132; refine (within_anyZ _ _ _ _).mono ?_; rintro e w' ⟨rfl, rfl⟩)
      | (go_at_call 56; refine (badColour_any _ _ _ _ (by omega) HA1.out).mono ?_; rintro e w2 ⟨rfl, hb2⟩; have k2 := KT.out.below hb2 hgl; clear r0 r1 r2 r3 r4 r5 r6 r7; have r0 := k2.cell 0; have r1 := k2.cell 1; have r2 := k2.cell 2; have r3 := k2.cell 3; have r4 := k2.cell 4; have r5 := k2.cell 5; have r6 := k2.cell 6; have r7 := k2.cell 7; simp at r0 r1 r2 r3 r4 r5 r6 r7; have HB2 := Lib.hid hb2; clear hb2 k2; rw [HP1.out])
      | (go_at_call 134; refine (paired_any t x _ (by omega) (by omega) ((HA1.out.below HB2.out).mono HB2.out.size) ((HBB1.out.below HB2.out).mono HB2.out.size)).mono ?_; rintro e w3 ⟨rfl, hb3⟩; have k3 := KT.out.below (HB2.out.trans (hb3.mono HB2.out.size)) hgl; clear r0 r1 r2 r3 r4 r5 r6 r7; have r0 := k3.cell 0; have r2 := k3.cell 2; have r3 := k3.cell 3; simp at r0 r2 r3; have HB3 := Lib.hid (HB2.out.trans (hb3.mono HB2.out.size)); have hgl3 := k3.lt; clear hb3 k3; rw [HP2.out])
    go_ret
    exact ⟨ret_int HC.out.symm, HB1.out.trans (HB3.out.mono HB1.out.size)⟩
  have hc0 := HC0.out
  rw [if_neg (by simp [HP1.out, p2])] at hc0
  clear HC0
  have HC0 := Lib.hid hc0
  have HP2 := Lib.hid p2
  clear hc0 p2
  have hmm := @run_makeMap Try.prog
  unfold titV at *
  go_enter Try.func117, Try.ntmps117
  go_upto_region 1 with fail
  rw [← HW1.out, ← HGT.out]
  go_wp2_with first
    | (go_at_call 132; refine (within_anyZ _ _ _ _).mono ?_; rintro e w' ⟨rfl, rfl⟩)
    | (go_at_call 56; refine (badColour_any _ _ _ _ (by omega) HA1.out).mono ?_; rintro e w2 ⟨rfl, hb2⟩; have k2 := KT.out.below hb2 hgl; clear r0 r1 r2 r3 r4 r5 r6 r7; have r0 := k2.cell 0; have r1 := k2.cell 1; have r2 := k2.cell 2; have r3 := k2.cell 3; have r4 := k2.cell 4; have r5 := k2.cell 5; have r6 := k2.cell 6; have r7 := k2.cell 7; simp at r0 r1 r2 r3 r4 r5 r6 r7; have HB2 := Lib.hid hb2; clear hb2 k2; rw [HP1.out])
    | (go_at_call 134; refine (paired_any t x _ (by omega) (by omega) ((HA1.out.below HB2.out).mono HB2.out.size) ((HBB1.out.below HB2.out).mono HB2.out.size)).mono ?_; rintro e w3 ⟨rfl, hb3⟩; have k3 := KT.out.below (HB2.out.trans (hb3.mono HB2.out.size)) hgl; clear r0 r1 r2 r3 r4 r5 r6 r7; have r0 := k3.cell 0; have r2 := k3.cell 2; have r3 := k3.cell 3; simp at r0 r2 r3; have HB3 := Lib.hid (HB2.out.trans (hb3.mono HB2.out.size)); have hgl3 := k3.lt; clear hb3 k3; rw [HP2.out])
  have HM0 := Lib.hid (MapIs.new w3 (fun x : ArrK 64 => arrV .i8 x.1) Value.bool)
  have HB4 := Lib.hid (HB3.out.alloc HB3.out.size (.map #[] 0))
  obtain ⟨gM, hgM⟩ : ∃ g, g = w3.heap.size := ⟨_, rfl⟩
  have HGM := Lib.hid hgM
  rw [← hgM] at HM0 ⊢
  clear hgM hmm r0 r2 r3
  go_loopw [65] (fun i wr => ∃ (k : Nat) (m : List (ArrK 64 × Bool)), k ≤ t.zones.length ∧ i = .int .i64 k ∧ Hid (firstErrZ (fun k => errZ t (t.zones.getD k ⟨0, 0, []⟩)) k = 0) ∧ Hid (MapIs (fun x : ArrK 64 => arrV .i8 x.1) Value.bool wr gM m ∧ m.map (·.1.1) = keysN t k) ∧ Below w1.heap.size w1 wr) (fun i _ => t.zones.length - (intOf i).toNat)
  case atStart => exact ⟨0, [], Nat.zero_le _, rfl, rfl, ⟨HM0.out, rfl⟩, HB4.out⟩
  case round =>
    obtain ⟨k, m, hk, rfl, HE, HM, hW⟩ := hrel
    have HW := Lib.hid hW
    have hgr : gT < wr.heap.size := Nat.lt_of_lt_of_le hgl hW.size
    have kr := KT.out.below hW hgl
    have r0 := kr.cell 0
    have r3 := kr.cell 3
    simp at r0 r3
    clear kr hW
    by_cases hlt : k < t.zones.length
    · have hz : k < zs.length := by rw [HT1.out.zlen]; exact hlt
      obtain ⟨zb, zo, hxz, hzb, c0, c1, c2⟩ := Sl.atZon ((HT1.out.below HW.out).cZ) hz
      have hva := HT1.out.cV k hz
      have hzg := HT1.out.zget hz
      have hzl := HS.out.s5 zs[k].1 (by rw [← HT1.out.zeq]; exact List.mem_map.2 ⟨_, List.getElem_mem hz, rfl⟩)
      obtain ⟨⟨⟨cp, du, va⟩, vA, vc⟩, hzk⟩ : ∃ z, z = zs[k] := ⟨_, rfl⟩
      rw [← hzk] at c0 c1 c2 hva hzg hzl
      dsimp only at c0 c1 c2 hva hzg hzl
      have HVA := Lib.hid (fun W (hb : Below w1.heap.size w1 W) => (hva.below hb).mono hb.size)
      rw [hxz]
      obtain ⟨wz, hwz⟩ : ∃ W, W = wr.alloc (.cells #[.int .i64 cp, .int .i64 du, .slice vA va.length vc] 98) := ⟨_, rfl⟩
      obtain ⟨gZ, hgZ⟩ : ∃ g, g = wr.heap.size := ⟨_, rfl⟩
      have kz : Blk wz gZ 98 #[.int .i64 cp, .int .i64 du, .slice vA va.length vc] := by rw [hwz, hgZ]; exact Blk.new _ _ _
      have HWZ1 := Lib.hid (show Below w1.heap.size w1 wz by rw [hwz]; exact HW.out.alloc HW.out.size _)
      have HMZ := Lib.hid (show MapIs (fun x : ArrK 64 => arrV .i8 x.1) Value.bool wz gM m by rw [hwz]; exact HM.out.1.alloc _)
      have hgmz : gM < wz.heap.size := HMZ.out.lt
      have q0 := kz.cell 0
      have q1 := kz.cell 1
      have q2 := kz.cell 2
      simp at q0 q1 q2
      have hgz : gZ < wz.heap.size := kz.lt
      have z0 := (KT.out.below HWZ1.out hgl).cell 0
      simp at z0
      have HWZ := Lib.hid hwz
      have HGZ := Lib.hid hgZ
      have KZ := Lib.hid kz
      have HZG := Lib.hid hzg
      have HZK := Lib.hid hzk
      have HXZ := Lib.hid hxz
      clear hwz hgZ kz hzg hzk hva hxz
      have hstop : errZ t ⟨cp, du, va⟩ ≠ 0 → checkT t = errZ t ⟨cp, du, va⟩ := fun h => by
        have h1 := firstErr_stopZ HE.out (show (fun k => errZ t (t.zones.getD k ⟨0, 0, []⟩)) k ≠ 0 by show errZ t (t.zones.getD k ⟨0, 0, []⟩) ≠ 0; rw [HZG.out]; exact h) hlt
        have h2 : errZ t (t.zones.getD k ⟨0, 0, []⟩) = errZ t ⟨cp, du, va⟩ := by rw [HZG.out]
        rw [HC0.out, h1, h2, if_pos h]
      have HST := Lib.hid hstop
      clear hstop
      rcases or4 (inBZ cp 0 1000000) (inBZ du 0 86400) true true with (i1 | ⟨i1, i2⟩ | ⟨_, _, i3⟩ | ⟨_, _, _, i3⟩) | ⟨i1, i2, _, _⟩
      case inl.inr.inr.inl | inl.inr.inr.inr => all_goals cases i3
      case inl.inl | inl.inr.inl =>
        all_goals
          have he : errZ t ⟨cp, du, va⟩ = 6 := by unfold errZ; rw [if_pos (by simp_all)]
          have HC := Lib.hid ((HST.out (by rw [he]; decide)).trans he)
          clear he
          go_upto_region 12 with fail
          rw [← HWZ.out, ← HGZ.out]
          go_wp2_with (go_at_call 132; refine (within_anyZ _ _ _ _).mono ?_; rintro e w' ⟨rfl, rfl⟩)
          go_ret
          exact ⟨ret_int HC.out.symm, HB1.out.trans (HWZ1.out.mono HB1.out.size)⟩
      have hez : errZ t ⟨cp, du, va⟩ = if va.length ≠ t.colours.length || va.any (fun v => !inBZ v 0 9) then 40 else 0 := by unfold errZ; rw [if_neg (by simp [i1, i2])]
      have HEZ := Lib.hid hez
      clear hez
      by_cases hl : va.length = t.colours.length
      · have hl0 : ((va.length : Int) != (t.colours.length : Int)) = false := by simp [hl]
        have HL := Lib.hid hl
        clear hl
        cases hb : va.any (fun v => !inBZ v 0 9)
        · have he : errZ t ⟨cp, du, va⟩ = 0 := by rw [HEZ.out, if_neg (by simp [hb, HL.out])]
          have hgo := firstErr_goZ HE.out (show (fun k => errZ t (t.zones.getD k ⟨0, 0, []⟩)) k = 0 by show errZ t (t.zones.getD k ⟨0, 0, []⟩) = 0; rw [HZG.out]; exact he)
          have HGO := Lib.hid hgo
          have HBV := Lib.hid hb
          have hok := errZ_ok he
          have HV9 := Lib.hid hok.2.2.2
          have hcp := hok.1
          dsimp only at hcp
          have hv64 : va.length ≤ 64 := by rw [HL.out]; omega
          have HPL := Lib.hid (padK_len hv64)
          have hks := keysN_succ hlt (fun i hi => (errZ_ok (firstErr_zeroZ HGO.out i (by omega))).2.2.1)
          rw [HZG.out] at hks
          dsimp only at hks
          have HKS := Lib.hid hks
          clear he hgo hb hok hks
          by_cases hcp0 : cp = 0
          · subst hcp0
            go_upto_region 12 with fail
            rw [← HWZ.out, ← HGZ.out]
            go_wp2_with first
              | (go_at_call 132; refine (within_anyZ _ _ _ _).mono ?_; rintro e w' ⟨rfl, rfl⟩)
              | (go_at_call 56; refine (badVariant_any _ _ _ _ (by omega) (HVA.out _ HWZ1.out)).mono ?_; rintro e w5 ⟨rfl, hb5⟩; rw [HBV.out]; have kz5 := KZ.out.below hb5 hgz; clear q0 q1 q2; have q0 := kz5.cell 0; have q2 := kz5.cell 2; simp at q0 q2; have HB5 := Lib.hid hb5; clear hb5 kz5)
            go_roundw
            case rel =>
              refine ⟨k + 1, m, by omega, by go_num, HGO.out, ⟨(HMZ.out).below HB5.out hgmz, ?_⟩, HWZ1.out.trans (HB5.out.mono HWZ1.out.size)⟩
              rw [HKS.out]; simp only [if_true]; exact HM.out.2
            case measure => simp [intOf]; omega
          · have hcp1 : 0 < cp := by omega
            have HCP := Lib.hid hcp0
            clear hcp0
            go_upto_region 12 with fail
            rw [← HWZ.out, ← HGZ.out]
            go_wp2_with first
              | (go_at_call 132; refine (within_anyZ _ _ _ _).mono ?_; rintro e w' ⟨rfl, rfl⟩)
              | (go_at_call 56; refine (badVariant_any _ _ _ _ (by omega) (HVA.out _ HWZ1.out)).mono ?_; rintro e w5 ⟨rfl, hb5⟩; rw [HBV.out]; have kz5 := KZ.out.below hb5 hgz; clear q0 q1 q2; have q0 := kz5.cell 0; have q2 := kz5.cell 2; simp at q0 q2; have HB5 := Lib.hid hb5; clear hb5 kz5)
              | (go_at_call 118; refine (keyOf_any _ _ _ _ (by omega) HV9.out (HVA.out _ (HWZ1.out.trans (HB5.out.mono HWZ1.out.size)))).mono ?_; rintro e w6 ⟨rfl, hb6⟩; have HB6 := Lib.hid (HB5.out.trans (hb6.mono HB5.out.size)); clear hb6)
              | (at_mapUpdate; refine wpList_update rfl (.tmp 95) (.tmp 98) (.const (.bool true)) 212 rfl Try.underlying212 keyLaw162 ((HMZ.out).below HB6.out hgmz) ⟨padK va, HPL.out⟩ true rfl rfl rfl ?_; intro w7 hm7 hg7 hs7; have HM7 := Lib.hid hm7; have HG7 := Lib.hid hg7; clear hm7 hg7 hs7)
            go_roundw
            case rel =>
              have hb6 := HWZ1.out.trans (HB6.out.mono HWZ1.out.size)
              refine ⟨k + 1, _, by omega, by go_num, HGO.out, ⟨HM7.out, ?_⟩, hb6.grown HG7.out hb6.size (fun j hj => by injection hj with hj; rw [← hj, HGM.out]; exact HB3.out.size)⟩
              rw [mset_vals, HKS.out, if_neg HCP.out, HM.out.2]
            case measure => simp [intOf]; omega
        · have he : errZ t ⟨cp, du, va⟩ = 40 := by rw [HEZ.out, if_pos (by simp [hb])]
          have HC := Lib.hid ((HST.out (by rw [he]; decide)).trans he)
          have HBV := Lib.hid hb
          clear he hb
          go_upto_region 12 with fail
          rw [← HWZ.out, ← HGZ.out]
          go_wp2_with first
            | (go_at_call 132; refine (within_anyZ _ _ _ _).mono ?_; rintro e w' ⟨rfl, rfl⟩)
            | (go_at_call 56; refine (badVariant_any _ _ _ _ (by omega) (HVA.out _ HWZ1.out)).mono ?_; rintro e w5 ⟨rfl, hb5⟩; rw [HBV.out]; have kz5 := KZ.out.below hb5 hgz; clear q0 q1 q2; have q0 := kz5.cell 0; have q2 := kz5.cell 2; simp at q0 q2; have HB5 := Lib.hid hb5; clear hb5 kz5)
          go_ret
          exact ⟨ret_int HC.out.symm, HB1.out.trans ((HWZ1.out.trans (HB5.out.mono HWZ1.out.size)).mono HB1.out.size)⟩
      · have hl0 : ((va.length : Int) != (t.colours.length : Int)) = true := by simp; omega
        have he : errZ t ⟨cp, du, va⟩ = 40 := by rw [HEZ.out, if_pos (by simp [hl])]
        have HC := Lib.hid ((HST.out (by rw [he]; decide)).trans he)
        clear he hl
        go_upto_region 12 with fail
        rw [← HWZ.out, ← HGZ.out]
        go_wp2_with (go_at_call 132; refine (within_anyZ _ _ _ _).mono ?_; rintro e w' ⟨rfl, rfl⟩)
        go_ret
        exact ⟨ret_int HC.out.symm, HB1.out.trans (HWZ1.out.mono HB1.out.size)⟩
    · obtain rfl : k = t.zones.length := by omega
      have hml : m.length = (edsN t t.zones.length).length := by
        have := congrArg List.length HM.out.2
        simpa [keysN_len] using this
      have hc0 := HC0.out
      rw [if_neg (show ¬ firstErrZ (fun k => errZ t (t.zones.getD k ⟨0, 0, []⟩)) t.zones.length ≠ 0 from fun h => h HE.out), ← hml] at hc0
      have HC1 := Lib.hid hc0
      have HMW := Lib.hid HM.out.1
      have hgm : gM < wr.heap.size := HMW.out.lt
      have hmm := @run_makeMap Try.prog
      have HN0 := Lib.hid (MapIs.new wr (fun x : ArrK 2 => arrV .i64 x.1) Value.bool)
      have HMW0 := Lib.hid (HMW.out.alloc (.map #[] 0))
      have HBN := Lib.hid (HW.out.alloc HW.out.size (.map #[] 0))
      clear hc0 hml HM HE HC0 hk hlt
      go_wp2_with fail
      obtain ⟨gN, hgN⟩ : ∃ g, g = wr.heap.size := ⟨_, rfl⟩
      have HGN := Lib.hid hgN
      have hmn : gM ≠ gN := by omega
      have HMN := Lib.hid hmn
      have hgn : w1.heap.size ≤ gN := by rw [hgN]; exact HW.out.size
      have HGN1 := Lib.hid hgn
      rw [← hgN] at HN0 ⊢
      clear hgN hmm hmn hgn r0 r3
      go_loopw [104] (fun i wr => ∃ (k : Nat) (m2 : List (ArrK 2 × Bool)), k ≤ t.ready.length ∧ i = .int .i64 k ∧ Hid (firstErrZ (errR t) k = 0) ∧ Hid (MapIs (fun x : ArrK 2 => arrV .i64 x.1) Value.bool wr gN m2 ∧ ∀ x : ArrK 2, (mget m2 x).getD false = hasR t.ready k x.1) ∧ Hid (MapIs (fun x : ArrK 64 => arrV .i8 x.1) Value.bool wr gM m) ∧ Below w1.heap.size w1 wr) (fun i _ => t.ready.length - (intOf i).toNat)
      case atStart => exact ⟨0, [], Nat.zero_le _, rfl, rfl, ⟨HN0.out, fun x => by simp [mget, hasR]⟩, HMW0, HBN.out⟩
      case round =>
        obtain ⟨k, m2, hk, rfl, HE, HM2, HMM, hX⟩ := hrel
        have HX := Lib.hid hX
        have hgr : gT < wr.heap.size := Nat.lt_of_lt_of_le hgl hX.size
        have kr := KT.out.below hX hgl
        have r0 := kr.cell 0
        simp at r0
        clear kr hX
        by_cases hlt : k < t.ready.length
        · obtain ⟨rb, ro, hxr, hrb, c0, c1, c2⟩ := ((HT1.out.below HX.out).cR).at3 hlt
          obtain ⟨⟨pg, vr, at_⟩, hrk⟩ : ∃ z, z = t.ready[k] := ⟨_, rfl⟩
          rw [← hrk] at c0 c1 c2
          dsimp only at c0 c1 c2
          rw [hxr]
          obtain ⟨wz, hwz⟩ : ∃ W, W = wr.alloc (.cells #[.int .i64 pg, .int .i64 vr, .int .i64 at_] 156) := ⟨_, rfl⟩
          obtain ⟨gZ, hgZ⟩ : ∃ g, g = wr.heap.size := ⟨_, rfl⟩
          have kz : Blk wz gZ 156 #[.int .i64 pg, .int .i64 vr, .int .i64 at_] := by rw [hwz, hgZ]; exact Blk.new _ _ _
          have HWZ1 := Lib.hid (show Below w1.heap.size w1 wz by rw [hwz]; exact HX.out.alloc HX.out.size _)
          have HMZ := Lib.hid (show MapIs (fun x : ArrK 2 => arrV .i64 x.1) Value.bool wz gN m2 by rw [hwz]; exact HM2.out.1.alloc _)
          have HMMZ := Lib.hid (show MapIs (fun x : ArrK 64 => arrV .i8 x.1) Value.bool wz gM m by rw [hwz]; exact HMM.out.alloc _)
          have q0 := kz.cell 0
          have q1 := kz.cell 1
          have q2 := kz.cell 2
          simp at q0 q1 q2
          have hgz : gZ < wz.heap.size := kz.lt
          have z0 := (KT.out.below HWZ1.out hgl).cell 0
          simp at z0
          have f1 := IntWalk.i64_in ((t.colours.length : Int) - 1) (by omega)
          have HWZ := Lib.hid hwz
          have HGZ := Lib.hid hgZ
          have hgd : t.ready.getD k (0, 0, 0) = (pg, vr, at_) := by rw [hrk]; simp [hlt]
          have her : errR t k = if !inBZ pg 0 ((t.colours.length : Int) - 1) || (!inBZ vr 0 9 || !inBZ at_ 0 86400) then 6 else if hasR t.ready k [pg, vr] then 10 else 0 := by
            unfold errR; rw [hgd]; dsimp only; rw [hasR_metR]
          have HER := Lib.hid her
          have hsu := fun x => hasR_succ hlt x
          rw [← hrk] at hsu
          have HSU := Lib.hid hsu
          have HHQ0 := Lib.hid (HM2.out.2 ⟨[pg, vr], rfl⟩)
          have hstop : errR t k ≠ 0 → checkT t = errR t k := fun h => by
            have h1 := firstErr_stopZ HE.out h hlt
            rw [HC1.out, h1, if_pos h]
          have HST := Lib.hid hstop
          clear hwz hgZ kz hxr hgd her hstop hsu hrk
          rcases or4 (inBZ pg 0 ((t.colours.length : Int) - 1)) (inBZ vr 0 9) (inBZ at_ 0 86400) true with (i1 | ⟨i1, i2⟩ | ⟨i1, i2, i3⟩ | ⟨_, _, _, i3⟩) | ⟨i1, i2, i3, _⟩
          case inl.inr.inr.inr => cases i3
          case inl.inl | inl.inr.inl | inl.inr.inr.inl =>
            all_goals
              have he : errR t k = 6 := by rw [HER.out, if_pos (by simp_all)]
              have HC := Lib.hid ((HST.out (by rw [he]; decide)).trans he)
              clear he
              go_upto_region 23 with fail
              rw [← HWZ.out, ← HGZ.out]
              go_wp2_with first
                | (go_at_call 132; refine (within_anyZ _ _ _ _).mono ?_; rintro e w' ⟨rfl, rfl⟩)
                | (go_at_call 135; refine (badVariantC_any _ _).mono ?_; rintro e w' ⟨rfl, rfl⟩)
              go_ret
              exact ⟨ret_int HC.out.symm, HB1.out.trans (HWZ1.out.mono HB1.out.size)⟩
          cases hh : hasR t.ready k [pg, vr]
          · have he : errR t k = 0 := by rw [HER.out, if_neg (by simp [i1, i2, i3]), hh]; rfl
            have HGO := Lib.hid (firstErr_goZ HE.out he)
            have HHQ := Lib.hid (HHQ0.out.trans hh)
            clear he hh
            go_upto_region 23 with fail
            rw [← HWZ.out, ← HGZ.out]
            go_wp2_with first
              | (go_at_call 132; refine (within_anyZ _ _ _ _).mono ?_; rintro e w' ⟨rfl, rfl⟩)
              | (go_at_call 135; refine (badVariantC_any _ _).mono ?_; rintro e w' ⟨rfl, rfl⟩)
              | (at_lookup; refine wpList_lookup rfl (.tmp 128) (.tmp 133) 213 false rfl Try.underlying213 keyLaw166 zero4Z HMZ.out ⟨[pg, vr], rfl⟩ rfl rfl ?_; simp only [Bool.false_eq_true, if_false, getD_boolZ, HHQ.out])
              | (at_mapUpdate; refine wpList_update rfl (.tmp 135) (.tmp 140) (.const (.bool true)) 213 rfl Try.underlying213 keyLaw166 HMZ.out ⟨[pg, vr], rfl⟩ true rfl rfl rfl ?_; intro w7 hm7 hg7 hs7; have HM7 := Lib.hid hm7; have HG7 := Lib.hid hg7; have HS7 := Lib.hid hs7; clear hm7 hg7 hs7)
            go_roundw
            case rel =>
              refine ⟨k + 1, _, by omega, by go_num, HGO.out, ⟨HM7.out, fun x => ?_⟩, HMMZ.out.same (HG7.out.block gM HMMZ.out.lt (fun e => HMN.out (by injection e))), HWZ1.out.grown HG7.out HWZ1.out.size (fun j hj => by injection hj with hj; rw [← hj]; exact HGN1.out)⟩
              rw [mget_mset, HSU.out]
              by_cases hx : x = ⟨[pg, vr], rfl⟩
              · subst hx; simp
              · rw [if_neg hx, HM2.out.2]
                have : decide ([pg, vr] = x.1) = false := decide_eq_false (fun e => hx (Subtype.ext e.symm))
                rw [this]; simp
            case measure => simp [intOf]; omega
          · have he : errR t k = 10 := by rw [HER.out, if_neg (by simp [i1, i2, i3]), hh]; rfl
            have HC := Lib.hid ((HST.out (by rw [he]; decide)).trans he)
            have HHQ := Lib.hid (HHQ0.out.trans hh)
            clear he hh
            go_upto_region 23 with fail
            rw [← HWZ.out, ← HGZ.out]
            go_wp2_with first
              | (go_at_call 132; refine (within_anyZ _ _ _ _).mono ?_; rintro e w' ⟨rfl, rfl⟩)
              | (go_at_call 135; refine (badVariantC_any _ _).mono ?_; rintro e w' ⟨rfl, rfl⟩)
              | (at_lookup; refine wpList_lookup rfl (.tmp 128) (.tmp 133) 213 false rfl Try.underlying213 keyLaw166 zero4Z HMZ.out ⟨[pg, vr], rfl⟩ rfl rfl ?_; simp only [Bool.false_eq_true, if_false, getD_boolZ, HHQ.out])
            go_ret
            exact ⟨ret_int HC.out.symm, HB1.out.trans (HWZ1.out.mono HB1.out.size)⟩
        · obtain rfl : k = t.ready.length := by omega
          have hc1 := HC1.out
          rw [if_neg (show ¬ firstErrZ (errR t) t.ready.length ≠ 0 from fun h => h HE.out)] at hc1
          have HC2 := Lib.hid hc1
          have HBX := Lib.hid (HB1.out.trans (HX.out.mono HB1.out.size))
          clear hc1 HC1
          by_cases e0 : m.length = 0
          · have t0 : ((m.length : Int) == 0) = true := by simp [e0]
            have HC := Lib.hid (HC2.out.trans (if_pos e0))
            clear e0
            go_wp2_with (at_len; refine wpList_msize rfl (.tmp 143) 212 rfl Try.underlying212 HMM.out rfl ?_)
            go_ret
            exact ⟨ret_int HC.out.symm, HBX.out⟩
          · have t0 : ((m.length : Int) == 0) = false := by simp; exact fun h => e0 (by simp [h])
            have HC3 := Lib.hid (HC2.out.trans (if_neg e0))
            clear e0
            by_cases e1 : 7 < m.length
            · have HC := Lib.hid (HC3.out.trans (if_pos e1))
              go_wp2_with (at_len; first | (refine wpList_msize rfl (.tmp 143) 212 rfl Try.underlying212 HMM.out rfl ?_) | (refine wpList_msize rfl (.tmp 147) 212 rfl Try.underlying212 HMM.out rfl ?_))
              go_ret
              exact ⟨ret_int HC.out.symm, HBX.out⟩
            · have HC := Lib.hid (HC3.out.trans (if_neg e1))
              have e2 : m.length ≤ 7 := by omega
              clear e1
              go_wp2_with (at_len; first | (refine wpList_msize rfl (.tmp 143) 212 rfl Try.underlying212 HMM.out rfl ?_) | (refine wpList_msize rfl (.tmp 147) 212 rfl Try.underlying212 HMM.out rfl ?_))
              go_ret
              exact ⟨ret_int HC.out.symm, HBX.out⟩
end Go.Proofs.Ytnbnfadmbggfnaa
namespace Go.Proofs.Ytnbnfadmbggfnaa
open Go.RowKit Go.Fh Go.Ed
set_option maxHeartbeats 1000000 in
theorem cloneOwn_anyZ (A : Option Addr) (c : Nat) (l : List Int) (w : World) (hl : l.length * 8 ≤ 140737488355328) (hA : Sl encInt 1 w w.heap.size A l) :
    Calls Try.prog 58 #[.slice A l.length c] w fun e w' => ∃ A' c', e = .returned (.slice A' l.length c') ∧ w'.ownsRow w.heap.size 3 1 (.slice A' l.length c') l.length (l.map (Value.int .i64)) ∧ Below w.heap.size w w' := by
  have hnil := fun w n c n' c' a => Lib.run_eql_slice_nil (P := Try.prog) w 47 3 a n c n' c' Try.underlying47
  obtain ⟨i0, hi0, hz0, hz1, hz2⟩ := info_parts infoInt
  rcases A with _ | ad
  · have h0 := hA.none_nil
    subst h0
    go_enter Try.func58, Try.ntmps58
    go_wp2
    go_ret
    exact ⟨none, 0, rfl, World.ownsRow_nil _ _ _ _, Below.refl _ _⟩
  · have hs2 : ∀ x : Int, (encInt x).length = 1 := fun _ => rfl
    have hfl := length_flat (enc := encInt) (size := 1) hs2 l
    have hne : ∀ u ∈ l.flatMap encInt, u.oneCell' = true := by
      intro u hu; obtain ⟨x, _, hx⟩ := List.mem_flatMap.1 hu; simp [encInt] at hx; subst hx; rfl
    have hcells : ∀ (W : World), Below w.heap.size w W → ∀ j u, (l.flatMap encInt)[j]? = some u → W.cell? (ad.add j) = some u := fun W hb => (hA.below hb).flat hs2
    have hmap : l.flatMap encInt = l.map (Value.int .i64) := by
      clear hfl hne hcells hl hA
      induction l with
      | nil => rfl
      | cons x l ih => rw [List.flatMap_cons, ih]; rfl
    obtain ⟨fl, hflat⟩ : ∃ fl, fl = l.flatMap encInt := ⟨_, rfl⟩
    rw [← hflat] at hfl hne hcells hmap
    have HF := Lib.hid hfl
    have HFL := Lib.hid hmap
    clear hfl hflat hmap
    have hb0 := (Below.refl w.heap.size w).alloc (Nat.le_refl _) (.cells #[] 3)
    have hown := World.ownsRow_made (base := w.heap.size) (e := 3) (size := 1) w #[] 0 (Nat.le_refl _) (by decide) rfl
    go_enter Try.func58, Try.ntmps58
    go_wp2_with (at_builtin; refine wpList_append_own _ rfl (.tmp 5) (.tmp 6) 47 rfl w.heap.size 3 i0 _ 1 8 Try.underlying47 hi0 hz0 hz1 hz2 rfl (by decide) _ _ _ rfl hown ad l.length c fl rfl HF.out (hcells _ hb0) hne (by simp only [maxLen]; omega) (by omega) (by simp) ?_; intro v' w1 hown1 hg1 _)
    go_ret
    obtain ⟨A', c', rfl⟩ := own_shape hown1
    simp only [Nat.zero_add, List.nil_append] at hown1 ⊢
    refine ⟨A', c', rfl, by rw [← HFL.out]; exact hown1, hb0.grown hg1 (by simp) (fun k hk => ?_)⟩
    cases hk; exact Nat.le_refl _
end Go.Proofs.Ytnbnfadmbggfnaa
namespace Go.Ed
open Go.Fh Go.RowKit Go.Proofs.Ytnbnfadmbggfnaa
/-- the block of an edition's zones (false) or variants (true) -/
def eb (e : EdM) (b : Bool) : Option Nat := if b then e.2.v.map (·.block) else e.2.z.map (·.block)
def zV (e : EdM) : Go.Value := .slice e.2.z e.1.zones.length e.2.cz
def vV (e : EdM) : Go.Value := .slice e.2.v e.1.variants.length e.2.cv
theorem zV_own (e : EdM) : (zV e).ownBlock = eb e false := by unfold zV eb; cases e.2.z <;> rfl
theorem vV_own (e : EdM) : (vV e).ownBlock = eb e true := by unfold vV eb; cases e.2.v <;> rfl
structure EdsAt (w : Go.World) (B : Nat) (v : Go.Value) (es : List EdM) : Prop where
  row : w.ownsRow B 200 5 v es.length (es.flatMap encEd)
  zon : ∀ i (h : i < es.length), w.ownsRow B 3 1 (zV es[i]) es[i].1.zones.length (es[i].1.zones.map (Go.Value.int .i64))
  var : ∀ i (h : i < es.length), w.ownsRow B 3 1 (vV es[i]) es[i].1.variants.length (es[i].1.variants.map (Go.Value.int .i64))
  sep : ∀ i (h : i < es.length) b j (h' : j < es.length) c g, eb es[i] b = some g → eb es[j] c = some g → i = j ∧ b = c
theorem EdsAt.nil (w : Go.World) (B : Nat) : EdsAt w B (.slice none 0 0) [] :=
  ⟨Go.World.ownsRow_nil _ _ _ _, fun i h => absurd h (by simp), fun i h => absurd h (by simp), fun i h => absurd h (by simp)⟩
theorem EdsAt.frame {w w' : Go.World} {B : Nat} {v : Go.Value} {es : List EdM} (h : EdsAt w B v es) (hf : ∀ (g : Nat) cs e, e = 3 ∨ e = 200 → w.heap[g]? = some (Go.Obj.cells cs e (0, 0)) → w'.heap[g]? = w.heap[g]?) : EdsAt w' B v es :=
  ⟨own_heap h.row fun g cs _ hg => hf g cs 200 (.inr rfl) hg, fun i hi => own_heap (h.zon i hi) fun g cs _ hg => hf g cs 3 (.inl rfl) hg, fun i hi => own_heap (h.var i hi) fun g cs _ hg => hf g cs 3 (.inl rfl) hg, h.sep⟩
theorem lt_of_heapZ {w : Go.World} {g : Nat} {o : Go.Obj} (h : w.heap[g]? = some o) : g < w.heap.size := (Array.getElem?_eq_some_iff.1 h).1
theorem EdsAt.alloc {w : Go.World} {B : Nat} {v : Go.Value} {es : List EdM} (h : EdsAt w B v es) (o : Go.Obj) : EdsAt (w.alloc o) B v es := h.frame fun g _ _ _ hg => Below.heap_alloc w o g (lt_of_heapZ hg)
theorem EdsAt.below {w w' : Go.World} {B : Nat} {v : Go.Value} {es : List EdM} (h : EdsAt w B v es) (hb : Below w.heap.size w w') : EdsAt w' B v es := h.frame fun g _ _ _ hg => hb.block g (lt_of_heapZ hg)
/-- a block of another kind turns -/
theorem EdsAt.grown {w w' : Go.World} {B : Nat} {v : Go.Value} {es : List EdM} {b : Nat} (h : EdsAt w B v es) (hg : w.grownBy w' (some b)) (hb : ∀ cs e, e = 3 ∨ e = 200 → w.heap[b]? ≠ some (Go.Obj.cells cs e (0, 0))) : EdsAt w' B v es :=
  h.frame fun g cs e he hh => hg.block g (lt_of_heapZ hh) (fun q => by injection q with q; subst q; exact hb cs e he hh)
theorem blk_kind {w : Go.World} {g : Nat} {t : Go.TypeId} {cs : Array Go.Value} (h : Blk w g t cs) (h3 : t ≠ 3) (h52 : t ≠ 200) : ∀ cs e, e = 3 ∨ e = 200 → w.heap[g]? ≠ some (Go.Obj.cells cs e (0, 0)) := by
  intro cs' e he hh
  unfold Blk at h
  rw [h] at hh
  injection hh with hh
  injection hh with _ ht
  rcases he with rfl | rfl
  · exact h3 ht
  · exact h52 ht
theorem map_kind {κ ν : Type} {ek : κ → Go.Value} {ev : ν → Go.Value} {w : Go.World} {g : Nat} {m : List (κ × ν)} (h : MapIs ek ev w g m) : ∀ cs e, e = 3 ∨ e = 200 → w.heap[g]? ≠ some (Go.Obj.cells cs e (0, 0)) := by
  intro cs' e he hh
  obtain ⟨es, c, h, _⟩ := h
  rw [h] at hh; cases hh
theorem EdsAt.set_ {w : Go.World} {B : Nat} {v : Go.Value} {es : List EdM} (h : EdsAt w B v es) {g : Nat} {t : Go.TypeId} {cs : Array Go.Value} (hb : Blk w g t cs) (h3 : t ≠ 3) (h52 : t ≠ 200) (i : Nat) (u : Go.Value) : EdsAt (w.setCell ⟨g, i, none⟩ u) B v es :=
  h.frame fun g' cs e he hh => Below.heap_setCell w _ u g' (fun q => by subst q; exact blk_kind hb h3 h52 cs e he hh)
theorem encEd_len (e : EdM) : (encEd e).length = 5 := rfl
/-- one cell of the edition at a place is written anew, in its row -/
theorem flatMap_set1 : ∀ (es : List EdM) (n : Nat) (e : EdM) (j : Nat) (u : Go.Value) (h : n < es.length), j < 5 → encEd e = (encEd es[n]).set j u → (es.set n e).flatMap encEd = (es.flatMap encEd).set (n * 5 + j) u
  | [], n, e, j, u, h, _, _ => by simp at h
  | e0 :: es, 0, e, j, u, h, hj, he => by
    simp only [List.getElem_cons_zero] at he
    simp only [List.set_cons_zero, List.flatMap_cons, he]
    rw [List.set_append_left _ _ (by rw [encEd_len]; omega)]
    simp
  | e0 :: es, n + 1, e, j, u, h, hj, he => by
    have ih := flatMap_set1 es n e j u (by simpa using h) hj (by simpa using he)
    simp only [List.set_cons_succ, List.flatMap_cons, ih]
    rw [List.set_append_right _ _ (by rw [encEd_len]; omega), encEd_len]
    congr 2; omega
theorem getE_set {es : List EdM} {n : Nat} {e : EdM} {i : Nat} (hi : i < (es.set n e).length) : (es.set n e)[i] = if n = i then e else es[i]'(by simpa using hi) := by
  rw [List.getElem_set]
/-- a cell of an edition's own is written -/
theorem EdsAt.put {w : Go.World} {B g c n : Nat} {es : List EdM} (h : EdsAt w B (.slice (some ⟨g, 0, none⟩) es.length c) es) (hn : n < es.length) (e : EdM) (j : Nat) (u : Go.Value) (hj : j < 5) (he : encEd e = (encEd es[n]).set j u)
    (h1 : e.1.zones = es[n].1.zones ∧ e.1.variants = es[n].1.variants ∧ e.2 = es[n].2) : EdsAt (w.setCell ⟨g, n * 5 + j, none⟩ u) B (.slice (some ⟨g, 0, none⟩) es.length c) (es.set n e) := by
  have hg : ∀ (g' : Nat) cs e', e' = 3 → w.heap[g']? = some (Go.Obj.cells cs e' (0, 0)) → (w.setCell ⟨g, n * 5 + j, none⟩ u).heap[g']? = w.heap[g']? := by
    intro g' cs e' he' hh
    refine Below.heap_setCell w _ u g' (fun q => ?_)
    subst q
    rcases h.row.2 with ⟨h0, _⟩ | ⟨g2, cap, cur, hv, _, hc, _⟩
    · cases h0
    · cases hv
      rw [hh] at hc; injection hc with hc; injection hc with _ ht; rw [he'] at ht; cases ht
  have hz : ∀ i (hi : i < (es.set n e).length), (zV (es.set n e)[i] = zV (es[i]'(by simpa using hi)) ∧ vV (es.set n e)[i] = vV (es[i]'(by simpa using hi)) ∧ ((es.set n e)[i]).1.zones = (es[i]'(by simpa using hi)).1.zones ∧ ((es.set n e)[i]).1.variants = (es[i]'(by simpa using hi)).1.variants) ∧ ∀ b, eb (es.set n e)[i] b = eb (es[i]'(by simpa using hi)) b := by
    intro i hi
    rw [getE_set]
    by_cases q : n = i
    · subst q; rw [if_pos rfl]; simp [zV, vV, eb, h1.1, h1.2.1, h1.2.2]
    · rw [if_neg q]; simp
  refine ⟨?_, fun i hi => ?_, fun i hi => ?_, fun i hi b i' hi' b' g' q q' => ?_⟩
  · have := (h.row.stored (n * 5 + j) u).1
    rw [List.length_set, flatMap_set1 es n e j u hn hj he]
    exact this
  · rw [(hz i hi).1.1, (hz i hi).1.2.2.1]
    exact own_heap (h.zon i (by simpa using hi)) fun g' cs _ hh => hg g' cs 3 rfl hh
  · rw [(hz i hi).1.2.1, (hz i hi).1.2.2.2]
    exact own_heap (h.var i (by simpa using hi)) fun g' cs _ hh => hg g' cs 3 rfl hh
  · rw [(hz i hi).2] at q
    rw [(hz i' hi').2] at q'
    exact h.sep i (by simpa using hi) b i' (by simpa using hi') b' g' q q'
/-- one edition more, with variants in a row of its own -/
theorem EdsAt.push {w w' : Go.World} {B H : Nat} {v v' : Go.Value} {es : List EdM} (h : EdsAt w B v es) (e : EdM) (hz : e.1.zones = [] ∧ e.2.z = none ∧ e.2.cz = 0)
    (hv : w.ownsRow H 3 1 (vV e) e.1.variants.length (e.1.variants.map (Go.Value.int .i64))) (hB : B ≤ H) (hH : ∀ i (hi : i < es.length) b g, eb es[i] b = some g → g < H)
    (ho : w'.ownsRow B 200 5 v' (es.length + 1) (es.flatMap encEd ++ encEd e)) (hg : w.grownBy w' v.ownBlock) : EdsAt w' B v' (es ++ [e]) := by
  have hne : ∀ {n : Nat} {u : Go.Value} {xs : List Go.Value} {b' : Nat}, w.ownsRow b' 3 1 u n xs → w'.ownsRow b' 3 1 u n xs := fun hr => hr.kept hg (own_own_ne hr h.row (by decide))
  have hget : ∀ i (hi : i < (es ++ [e]).length), (∃ h' : i < es.length, (es ++ [e])[i] = es[i]) ∨ (i = es.length ∧ (es ++ [e])[i] = e) := by
    intro i hi
    by_cases q : i < es.length
    · exact .inl ⟨q, by rw [List.getElem_append_left q]⟩
    · have : i = es.length := by simp at hi; omega
      subst this; exact .inr ⟨rfl, by simp⟩
  have hnew : ∀ b g, eb e b = some g → b = true ∧ H ≤ g := by
    intro b g q
    cases b
    · simp [eb, hz.2.1] at q
    · refine ⟨rfl, ?_⟩
      have := (hv.lt g (by rw [vV_own]; exact q)).1
      exact this
  refine ⟨by simpa using ho, fun i hi => ?_, fun i hi => ?_, fun i hi b j hj c g q1 q2 => ?_⟩
  · rcases hget i hi with ⟨h', q⟩ | ⟨_, q⟩
    · rw [q]; exact hne (h.zon i h')
    · rw [q]; simp only [zV, hz.1, hz.2.1, hz.2.2]; exact Go.World.ownsRow_nil _ _ _ _
  · rcases hget i hi with ⟨h', q⟩ | ⟨_, q⟩
    · rw [q]; exact hne (h.var i h')
    · rw [q]; exact hne ((show w.ownsRow B 3 1 (vV e) e.1.variants.length (e.1.variants.map (Go.Value.int .i64)) from Go.World.ownsRow.mono hv hB))
  · rcases hget i hi with ⟨hi', p1⟩ | ⟨e1, p1⟩ <;> rcases hget j hj with ⟨hj', p2⟩ | ⟨e2, p2⟩ <;> rw [p1] at q1 <;> rw [p2] at q2
    · exact h.sep i hi' b j hj' c g q1 q2
    · exact absurd (hH i hi' b g q1) (by have := (hnew c g q2).2; omega)
    · exact absurd (hH j hj' c g q2) (by have := (hnew b g q1).2; omega)
    · exact ⟨by omega, by rw [(hnew b g q1).1, (hnew c g q2).1]⟩
/-- an edition's zones have got one more, and its cell is written -/
theorem EdsAt.addz {w w' : Go.World} {B g c n : Nat} {es : List EdM} (h : EdsAt w B (.slice (some ⟨g, 0, none⟩) es.length c) es) (hn : n < es.length) (k : Int) (g1 cap : Nat)
    (ho : w'.ownsRow B 3 1 (.slice (some ⟨g1, 0, none⟩) (es[n].1.zones.length + 1) cap) (es[n].1.zones.length + 1) (es[n].1.zones.map (Go.Value.int .i64) ++ [.int .i64 k])) (hg : w.grownBy w' (zV es[n]).ownBlock) (hl : (zV es[n]).ownBlock = some g1 ∨ w.heap.size ≤ g1) :
    EdsAt (w'.setCell ⟨g, n * 5, none⟩ (.slice (some ⟨g1, 0, none⟩) (es[n].1.zones.length + 1) cap)) B (.slice (some ⟨g, 0, none⟩) es.length c)
      (es.set n (⟨es[n].1.zones ++ [k], es[n].1.copies, es[n].1.ready, es[n].1.due, es[n].1.variants⟩, ⟨some ⟨g1, 0, none⟩, cap, es[n].2.v, es[n].2.cv⟩)) := by
  obtain ⟨e, he⟩ : ∃ e : EdM, e = (⟨es[n].1.zones ++ [k], es[n].1.copies, es[n].1.ready, es[n].1.due, es[n].1.variants⟩, ⟨some ⟨g1, 0, none⟩, cap, es[n].2.v, es[n].2.cv⟩) := ⟨_, rfl⟩
  rw [← he]
  have hzv : zV e = .slice (some ⟨g1, 0, none⟩) (es[n].1.zones.length + 1) cap := by rw [he]; simp [zV]
  rw [← hzv]
  have hvv : vV e = vV es[n] ∧ e.1.variants = es[n].1.variants := by rw [he]; exact ⟨rfl, rfl⟩
  have henc : encEd e = (encEd es[n]).set 0 (zV e) := by rw [he]; simp [encEd, zV]
  have hrow := h.row.kept hg (own_own_ne h.row (h.zon n hn) (by decide))
  have hg3 : ∀ (g' : Nat) cs e', e' = 3 → w'.heap[g']? = some (Go.Obj.cells cs e' (0, 0)) → (w'.setCell ⟨g, n * 5, none⟩ (zV e)).heap[g']? = w'.heap[g']? := by
    intro g' cs e' he' hh
    refine Below.heap_setCell w' _ _ g' (fun q => ?_)
    subst q
    rcases hrow.2 with ⟨h0, _⟩ | ⟨g2, cap, cur, hv, _, hc, _⟩
    · cases h0
    · cases hv
      rw [hh] at hc; injection hc with hc; injection hc with _ ht; rw [he'] at ht; cases ht
  have keepz : ∀ i (hi : i < es.length), i ≠ n → w'.ownsRow B 3 1 (zV es[i]) es[i].1.zones.length (es[i].1.zones.map (Go.Value.int .i64)) := fun i hi hne => (h.zon i hi).kept hg (by
    rw [zV_own, zV_own]
    cases q : eb es[i] false with
    | none => exact .inl rfl
    | some x => exact .inr fun q2 => hne (h.sep i hi false n hn false x q q2.symm).1)
  have keepv : ∀ i (hi : i < es.length), w'.ownsRow B 3 1 (vV es[i]) es[i].1.variants.length (es[i].1.variants.map (Go.Value.int .i64)) := fun i hi => (h.var i hi).kept hg (by
    rw [zV_own, vV_own]
    cases q : eb es[i] true with
    | none => exact .inl rfl
    | some x => exact .inr fun q2 => by have := (h.sep i hi true n hn false x q q2.symm).2; cases this)
  have hebe : ∀ b, eb e b = if b then eb es[n] true else some g1 := by intro b; rw [he]; cases b <;> rfl
  have hold : ∀ i (hi : i < es.length) b x, eb es[i] b = some x → x < w.heap.size := by
    intro i hi b x q
    cases b
    · exact ((h.zon i hi).lt x (by rw [zV_own]; exact q)).2
    · exact ((h.var i hi).lt x (by rw [vV_own]; exact q)).2
  have hg1 : ∀ i (hi : i < es.length) b, eb es[i] b = some g1 → i = n ∧ b = false := by
    intro i hi b q
    rcases hl with hl | hl
    · rw [zV_own] at hl; exact h.sep i hi b n hn false g1 q hl
    · exact absurd (hold i hi b g1 q) (by omega)
  refine ⟨?_, fun i hi => ?_, fun i hi => ?_, fun i hi b j hj b' x q1 q2 => ?_⟩
  · have := (hrow.stored (n * 5) (zV e)).1
    rw [List.length_set, flatMap_set1 es n e 0 (zV e) hn (by omega) henc]
    exact this
  · rw [getE_set]
    have hi' : i < es.length := by simpa using hi
    by_cases q : n = i
    · subst q
      rw [if_pos rfl]
      have : w'.ownsRow B 3 1 (zV e) e.1.zones.length (e.1.zones.map (Go.Value.int .i64)) := by rw [hzv, he]; simpa using ho
      exact own_heap this fun g' cs _ hh => hg3 g' cs 3 rfl hh
    · rw [if_neg q]
      exact own_heap (keepz i hi' (fun e => q e.symm)) fun g' cs _ hh => hg3 g' cs 3 rfl hh
  · rw [getE_set]
    have hi' : i < es.length := by simpa using hi
    by_cases q : n = i
    · subst q
      rw [if_pos rfl, hvv.1, hvv.2]
      exact own_heap (keepv n hi') fun g' cs _ hh => hg3 g' cs 3 rfl hh
    · rw [if_neg q]
      exact own_heap (keepv i hi') fun g' cs _ hh => hg3 g' cs 3 rfl hh
  · have hi' : i < es.length := by simpa using hi
    have hj' : j < es.length := by simpa using hj
    rw [getE_set] at q1 q2
    by_cases p1 : n = i
    · subst p1
      rw [if_pos rfl, hebe] at q1
      by_cases p2 : n = j
      · subst p2
        rw [if_pos rfl, hebe] at q2
        refine ⟨rfl, ?_⟩
        cases b <;> cases b'
        · rfl
        · simp only [Bool.false_eq_true, if_false, if_true] at q1 q2
          cases q1
          have := (hg1 n hn true q2).2
          cases this
        · simp only [Bool.false_eq_true, if_false, if_true] at q1 q2
          cases q2
          have := (hg1 n hn true q1).2
          cases this
        · rfl
      · rw [if_neg p2] at q2
        cases b
        · simp only [Bool.false_eq_true, if_false] at q1
          cases q1
          exact absurd (hg1 j hj' b' q2).1.symm p2
        · simp only [if_true] at q1
          have := h.sep n hn true j hj' b' x q1 q2
          exact absurd this.1 p2
    · rw [if_neg p1] at q1
      by_cases p2 : n = j
      · subst p2
        rw [if_pos rfl, hebe] at q2
        cases b'
        · simp only [Bool.false_eq_true, if_false] at q2
          cases q2
          exact absurd (hg1 i hi' b q1).1.symm p1
        · simp only [if_true] at q2
          have := h.sep i hi' b n hn true x q1 q2
          exact absurd this.1.symm p1
      · rw [if_neg p2] at q2
        exact h.sep i hi' b j hj' b' x q1 q2
theorem flat_getZ : ∀ (es : List EdM) (n j : Nat) (h : n < es.length), j < 5 → (es.flatMap encEd)[n * 5 + j]? = (encEd es[n])[j]?
  | [], n, j, h, _ => by simp at h
  | e0 :: es, 0, j, h, hj => by
    rw [List.flatMap_cons, List.getElem?_append_left (by rw [encEd_len]; omega)]
    simp
  | e0 :: es, n + 1, j, h, hj => by
    rw [List.flatMap_cons, List.getElem?_append_right (by rw [encEd_len]; omega), encEd_len, show (n + 1) * 5 + j - 5 = n * 5 + j by omega]
    simpa using flat_getZ es n j (by simpa using h) hj
theorem EdsAt.at_ {w : Go.World} {B g c : Nat} {es : List EdM} (h : EdsAt w B (.slice (some ⟨g, 0, none⟩) es.length c) es) {n : Nat} (hn : n < es.length) (j : Nat) (hj : j < 5) :
    w.cell? ⟨g, n * 5 + j, none⟩ = (encEd es[n])[j]? ∧ w.frozen? ⟨g, n * 5 + j, none⟩ = false := by
  refine ⟨?_, h.row.frozenAt _⟩
  have := h.row.cellAt (n * 5 + j) (by omega)
  rw [this, flat_getZ es n j hn hj]
theorem EdsAt.atm {w : Go.World} {B g c m : Nat} {es : List EdM} (h : EdsAt w B (.slice (some ⟨g, 0, none⟩) m c) es) (hm : m = es.length) {n : Nat} (hn : n < es.length) (j : Nat) (hj : j < 5) :
    w.cell? ⟨g, n * 5 + j, none⟩ = (encEd es[n])[j]? ∧ w.frozen? ⟨g, n * 5 + j, none⟩ = false := by subst hm; exact h.at_ hn j hj
theorem EdsAt.putm {w : Go.World} {B g c m n : Nat} {es : List EdM} (h : EdsAt w B (.slice (some ⟨g, 0, none⟩) m c) es) (hm : m = es.length) (hn : n < es.length) (e : EdM) (j : Nat) (u : Go.Value) (hj : j < 5) (he : encEd e = (encEd es[n]).set j u)
    (h1 : e.1.zones = es[n].1.zones ∧ e.1.variants = es[n].1.variants ∧ e.2 = es[n].2) : EdsAt (w.setCell ⟨g, n * 5 + j, none⟩ u) B (.slice (some ⟨g, 0, none⟩) m c) (es.set n e) := by subst hm; exact h.put hn e j u hj he h1
theorem EdsAt.base {w : Go.World} {B B' : Nat} {v : Go.Value} {es : List EdM} (h : EdsAt w B v es) (hB : B' ≤ B) : EdsAt w B' v es :=
  ⟨Go.World.ownsRow.mono h.row hB, fun i hi => Go.World.ownsRow.mono (h.zon i hi) hB, fun i hi => Go.World.ownsRow.mono (h.var i hi) hB, h.sep⟩
end Go.Ed
namespace Go.Ed
/-- the editions with the one of a zone among them -/
def preZ (es : List EdD) (z : ZonD) : List EdD := if es.any (fun e => e.variants == z.variants) then es else es ++ [⟨[], 0, 0, 86400, z.variants⟩]
/-- an edition with a zone more -/
def updZ (e : EdD) (i : Int) (z : ZonD) : EdD := ⟨e.zones ++ [i], e.copies + z.copies, e.ready, min e.due z.due, e.variants⟩
theorem map_one (f : EdD → EdD) (v : List Int) : ∀ (es : List EdD) (n : Nat) (h : n < es.length), (es.map EdD.variants).Nodup → es[n].variants = v → (es.map fun e => if e.variants == v then f e else e) = es.set n (f es[n])
  | [], n, h, _, _ => by simp at h
  | e :: es, 0, h, hn, hv => by
    simp only [List.getElem_cons_zero] at hv
    simp only [List.map_cons, List.set_cons_zero, List.getElem_cons_zero, hv, beq_self_eq_true, if_true]
    congr 1
    have : ∀ x ∈ es, (if x.variants == v then f x else x) = x := by
      intro x hx
      rw [if_neg]
      intro h
      rw [List.map_cons, List.nodup_cons] at hn
      exact hn.1 (by rw [hv]; exact List.mem_map.2 ⟨x, hx, by simpa using h⟩)
    rw [List.map_congr_left this]; simp
  | e :: es, n + 1, h, hn, hv => by
    rw [List.map_cons, List.nodup_cons] at hn
    have h' : n < es.length := by simpa using h
    have ih := map_one f v es n h' hn.2 (by simpa using hv)
    simp only [List.map_cons, List.set_cons_succ, List.getElem_cons_succ, ih]
    congr 1
    rw [if_neg]
    intro q
    have q' : e.variants = v := by simpa using q
    exact hn.1 (by rw [q', ← hv]; exact List.mem_map.2 ⟨es[n], List.getElem_mem h', by simp⟩)
theorem addZ_at {es : List EdD} (hn : (es.map EdD.variants).Nodup) {i : Int} {z : ZonD} (hc : z.copies ≠ 0) {n : Nat} (h : n < (preZ es z).length) (hv : (preZ es z)[n].variants = z.variants) : addZ es i z = (preZ es z).set n (updZ (preZ es z)[n] i z) := by
  unfold addZ
  rw [if_neg hc]
  by_cases ha : (es.any fun e => e.variants == z.variants) = true
  · have hp : preZ es z = es := by unfold preZ; rw [if_pos ha]
    rw [if_pos ha]
    simp only [hp] at h hv ⊢
    exact map_one (fun e => updZ e i z) z.variants es n h hn hv
  · have hp : preZ es z = es ++ [⟨[], 0, 0, 86400, z.variants⟩] := by unfold preZ; rw [if_neg ha]
    rw [if_neg ha]
    simp only [hp] at h hv ⊢
    have hnn : n = es.length := by
      rcases Nat.lt_or_ge n es.length with q | q
      · exfalso
        rw [List.getElem_append_left q] at hv
        exact ha (List.any_eq_true.2 ⟨es[n], List.getElem_mem q, by simp [hv]⟩)
      · simp at h; omega
    subst hnn
    simp [updZ]
theorem preZ_any {es : List EdD} {z : ZonD} (h : z.variants ∈ es.map EdD.variants) : preZ es z = es := by
  unfold preZ
  rw [if_pos]
  obtain ⟨e, he, q⟩ := List.mem_map.1 h
  exact List.any_eq_true.2 ⟨e, he, by simp [q]⟩
theorem preZ_none {es : List EdD} {z : ZonD} (h : z.variants ∉ es.map EdD.variants) : preZ es z = es ++ [⟨[], 0, 0, 86400, z.variants⟩] := by
  unfold preZ
  rw [if_neg]
  intro ha
  obtain ⟨e, he, q⟩ := List.any_eq_true.1 ha
  exact h (List.mem_map.2 ⟨e, he, by simpa using q⟩)
open Go.Fh
/-- a map of indices -/
def Idx (m : List (ArrK 64 × Int)) (ks : List (List Int)) : Prop := m.map (·.1.1) = ks ∧ ∀ j (h : j < m.length), m[j].2 = (j : Int)
theorem mget_some {κ ν : Type} [DecidableEq κ] : ∀ (m : List (κ × ν)) (x : κ) (v : ν), mget m x = some v → ∃ n, ∃ h : n < m.length, m[n].1 = x ∧ m[n].2 = v
  | [], x, v, h => by simp [mget] at h
  | p :: m, x, v, h => by
    by_cases q : x = p.1
    · simp only [mget, if_pos q] at h
      exact ⟨0, by simp, q.symm, by simpa using h⟩
    · simp only [mget, if_neg q] at h
      obtain ⟨n, hn, h1, h2⟩ := mget_some m x v h
      exact ⟨n + 1, by simpa using hn, by simpa using h1, by simpa using h2⟩
theorem Idx.len {m : List (ArrK 64 × Int)} {ks : List (List Int)} (h : Idx m ks) : m.length = ks.length := by rw [← h.1]; simp
theorem Idx.found {m : List (ArrK 64 × Int)} {ks : List (List Int)} (h : Idx m ks) {x : ArrK 64} {v : Int} (hg : mget m x = some v) : ∃ n, ∃ hn : n < ks.length, v = (n : Int) ∧ ks[n] = x.1 := by
  obtain ⟨n, hn, h1, h2⟩ := mget_some m x v hg
  refine ⟨n, by rw [← h.len]; exact hn, by rw [← h2, h.2 n hn], ?_⟩
  have : ks[n]'(by rw [← h.len]; exact hn) = (m.map (·.1.1))[n]'(by simpa using hn) := by simp only [h.1]
  rw [this, List.getElem_map, h1]
theorem Idx.more {m : List (ArrK 64 × Int)} {ks : List (List Int)} (h : Idx m ks) {x : ArrK 64} (hg : mget m x = none) : Idx (mset m x (ks.length : Int)) (ks ++ [x.1]) := by
  have hm : mset m x (ks.length : Int) = m ++ [(x, (ks.length : Int))] := by
    clear h
    generalize (ks.length : Int) = v
    induction m with
    | nil => rfl
    | cons p m ih =>
      by_cases q : x = p.1
      · simp [mget, q] at hg
      · simp only [mget, if_neg q] at hg
        simp only [mset, if_neg q, ih hg, List.cons_append]
  rw [hm]
  refine ⟨by simp [h.1], fun j hj => ?_⟩
  by_cases q : j < m.length
  · rw [List.getElem_append_left q, h.2 j q]
  · have : j = m.length := by simp at hj; omega
    subst this
    simp [h.len]
end Go.Ed
namespace Go.Proofs.Ytnbnfadmbggfnaa
open Go.RowKit Go.Fh Go.Ed
theorem zero3 : ∀ w, (zeroValue 3).run Try.prog w = .ok (.int .i64 0) w := fun w => by kernel_rfl
theorem infoEd : (Try.prog.info? 200).map (fun i => (i.zero, i.size, i.bytes)) = some (some (.agg #[.slice none 0 0, .int .i64 0, .int .i64 0, .int .i64 0, .slice none 0 0]), 5, 72) := by kernel_rfl
end Go.Proofs.Ytnbnfadmbggfnaa
namespace Go.Ed
open Go.Fh Go.RowKit Go.Proofs.Ytnbnfadmbggfnaa
structure ChkOk (t : TitD) : Prop where
  ok : OkT t
  c0 : 1 ≤ t.colours.length
  z0 : 1 ≤ t.zones.length
  z1 : t.zones.length ≤ 12
  r1 : t.ready.length ≤ 300
  ez : ∀ k, k < t.zones.length → errZ t (t.zones.getD k ⟨0, 0, []⟩) = 0
  er : ∀ k, k < t.ready.length → errR t k = 0
  n0 : 1 ≤ (edsN t t.zones.length).length
  n1 : (edsN t t.zones.length).length ≤ 7
theorem chk_ok {t : TitD} (h : checkT t = 0) : ChkOk t := by
  unfold checkT at h
  split at h
  · cases h
  · rename_i h1
    split at h
    · cases h
    · rename_i h2
      split at h
      · cases h
      · rename_i h3
        split at h
        · rename_i h4; exact absurd h h4
        · rename_i h4
          split at h
          · rename_i h5; exact absurd h h5
          · rename_i h5
            split at h
            · cases h
            · rename_i h6
              split at h
              · cases h
              · rename_i h7
                simp only [Bool.or_eq_true, not_or, Bool.not_eq_true, Bool.not_eq_false', decide_eq_false_iff_not, Nat.not_lt] at h1 h2 h3
                have a1 := inB_iffZ.1 h1.1
                have a2 := inB_iffZ.1 h1.2.1
                have b1 := inB_iffZ.1 h2.1
                have b2 := inB_iffZ.1 h2.2.1
                have b3 := inB_iffZ.1 h2.2.2.1
                have b4 := inB_iffZ.1 h2.2.2.2
                have hcol : ∀ c ∈ t.colours, 1 ≤ c ∧ c ≤ 4 := by
                  intro c hc
                  refine inB_iffZ.1 ?_
                  cases hb : inBZ c 1 4
                  · have := List.any_eq_false.1 h3.1 c hc
                    simp [hb] at this
                  · rfl
                refine ⟨⟨by omega, hcol, b1.1, b1.2, b2.1, b2.2, b3.1, b3.2, b4.1, b4.2, h3.2⟩, by omega, by omega, by omega, by omega, ?_, ?_, by omega, by omega⟩
                · intro k hk
                  exact firstErr_zeroZ (by omega : firstErrZ (fun k => errZ t (t.zones.getD k ⟨0, 0, []⟩)) t.zones.length = 0) k hk
                · intro k hk
                  exact firstErr_zeroZ (by omega : firstErrZ (errR t) t.ready.length = 0) k hk
theorem addZ_step {P Q : EdD → Prop} {es : List EdD} {i : Int} {z : ZonD} (h : ∀ e ∈ es, P e) (hp : ∀ e, P e → Q e) (hn : z.copies ≠ 0 → Q ⟨[i], z.copies, 0, min 86400 z.due, z.variants⟩)
    (hm : ∀ e, P e → e.variants = z.variants → Q ⟨e.zones ++ [i], e.copies + z.copies, e.ready, min e.due z.due, e.variants⟩) : ∀ e ∈ addZ es i z, Q e := by
  unfold addZ
  split
  · exact fun e he => hp e (h e he)
  · rename_i h0
    split
    · intro e he
      obtain ⟨e', he', rfl⟩ := List.mem_map.1 he
      by_cases hv : e'.variants = z.variants
      · rw [if_pos (by simpa using hv)]; exact hm e' (h e' he') hv
      · rw [if_neg (by simpa using hv)]; exact hp e' (h e' he')
    · intro e he
      rcases List.mem_append.1 he with he | he
      · exact hp e (h e he)
      · simp at he; subst he; exact hn h0
/-- what an edition of so many zones keeps to -/
structure EdB (t : TitD) (k : Nat) (e : EdD) : Prop where
  c0 : 1 ≤ e.copies
  c1 : e.copies ≤ 1000000 * (k : Int)
  d0 : 0 ≤ e.due
  d1 : e.due ≤ 86400
  r : e.ready = 0
  zn : e.zones.length ≤ k
  z1 : 1 ≤ e.zones.length
  zz : ∀ z ∈ e.zones, 0 ≤ z ∧ z < (k : Int)
  vn : e.variants.length = t.colours.length
  vv : ∀ v ∈ e.variants, 0 ≤ v ∧ v ≤ 9
theorem edsN_bd {t : TitD} (h : ChkOk t) : ∀ k, k ≤ t.zones.length → ∀ e ∈ edsN t k, EdB t k e := by
  intro k
  induction k with
  | zero => intro _ e he; simp [edsN] at he
  | succ k ih =>
    intro hk
    have hz := errZ_ok (h.ez k (by omega))
    refine addZ_step (P := EdB t k) (Q := EdB t (k + 1)) (ih (by omega)) ?_ ?_ ?_
    · intro e b
      exact ⟨b.c0, by have := b.c1; omega, b.d0, b.d1, b.r, by have := b.zn; omega, b.z1, fun z hz => by have := b.zz z hz; omega, b.vn, b.vv⟩
    · intro hc
      exact ⟨by show 1 ≤ (t.zones.getD k ⟨0, 0, []⟩).copies; omega, by show (t.zones.getD k ⟨0, 0, []⟩).copies ≤ _; omega, by show 0 ≤ min 86400 (t.zones.getD k ⟨0, 0, []⟩).due; omega, by show min 86400 (t.zones.getD k ⟨0, 0, []⟩).due ≤ _; omega, rfl, by simp, by simp, by simp; omega, hz.2.2.1, hz.2.2.2⟩
    · intro e b hv
      refine ⟨by have := b.c0; show 1 ≤ e.copies + _; omega, by have := b.c1; show e.copies + _ ≤ _; omega, by have := b.d0; show 0 ≤ min e.due _; omega, by have := b.d1; show min e.due _ ≤ _; omega, b.r, by have := b.zn; simp; omega, by simp, ?_, b.vn, b.vv⟩
      intro z hz
      simp only [List.mem_append, List.mem_singleton] at hz
      rcases hz with hz | rfl
      · have := b.zz z hz; omega
      · omega
/-- an edition with its second -/
def withR (t : TitD) (e : EdM) : EdM := (⟨e.1.zones, e.1.copies, readyN t.ready e.1.variants t.ready.length, e.1.due, e.1.variants⟩, e.2)
def rdyL (t : TitD) (es : List EdM) (k : Nat) : List EdM := (es.take k).map (withR t) ++ es.drop k
theorem rdyL_len (t : TitD) (es : List EdM) (k : Nat) : (rdyL t es k).length = es.length := by simp [rdyL]; omega
theorem rdyL_get {t : TitD} {es : List EdM} {k : Nat} (h : k < es.length) : (rdyL t es k)[k]'(by rw [rdyL_len]; exact h) = es[k] := by
  unfold rdyL
  rw [List.getElem_append_right (by simp; omega)]
  simp only [List.getElem_drop]
  congr 1
  simp; omega
theorem rdyL_succ {t : TitD} {es : List EdM} {k : Nat} (h : k < es.length) : rdyL t es (k + 1) = (rdyL t es k).set k (withR t es[k]) := by
  unfold rdyL
  rw [List.take_succ_eq_append_getElem h, List.map_append, List.append_assoc, List.set_append_right _ _ (by simp; omega)]
  simp [show k - min k es.length = 0 by omega]
  rw [List.drop_eq_getElem_cons h]; rfl
theorem rdyL_all (t : TitD) (es : List EdM) : rdyL t es es.length = es.map (withR t) := by simp [rdyL]
theorem withR_eds {t : TitD} {es : List EdM} (h : es.map (·.1) = edsN t t.zones.length) : (es.map (withR t)).map (·.1) = edsR t := by
  unfold edsR
  rw [← h, List.map_map, List.map_map]; rfl
/-- a title at work in memory: its editions, its rows of changes -/
structure Wk where
  es : List EdM
  rows : List (Option Go.Addr × Nat)
  E : Option Go.Addr
  cE : Nat
  C : Option Go.Addr
  cC : Nat
  g : Nat
structure WorkAt (w : Go.World) (B : Nat) (t : TitD) (x : TA) (k : Wk) : Prop where
  eds : k.es.map (·.1) = edsR t
  ed : EdsAt w B (.slice k.E k.es.length k.cE) k.es
  hk : Blk w k.g 161 (workV t x k.E k.es.length k.cE k.C k.cC (allB t))
  hg : B ≤ k.g
  hrl : k.rows.length = k.es.length
  oC : w.ownsRow B 47 1 (.slice k.C k.rows.length k.cC) k.rows.length (k.rows.flatMap (encRow k.es.length))
  oR : ∀ i (h : i < k.rows.length), w.ownsRow B 3 1 (.slice k.rows[i].1 (chgLZ t (k.es.map (·.1)) i).length k.rows[i].2) (chgLZ t (k.es.map (·.1)) i).length ((chgLZ t (k.es.map (·.1)) i).map (Go.Value.int .i64))
theorem flat_intZ (l : List Int) : l.flatMap encInt = l.map (Go.Value.int .i64) := by
  induction l with
  | nil => rfl
  | cons x l ih => rw [List.flatMap_cons, ih]; rfl
theorem own_slZ {w : Go.World} {B : Nat} {A : Option Go.Addr} {c : Nat} {l : List Int} (h : w.ownsRow B 3 1 (.slice A l.length c) l.length (l.map (Go.Value.int .i64))) : Sl encInt 1 w w.heap.size A l :=
  Sl.of_own (base := B) (e := 3) (c := c) (fun _ => rfl) (by rw [flat_intZ]; exact h)
end Go.Ed
namespace Go.Proofs.Ytnbnfadmbggfnaa
open Go.RowKit Go.Fh Go.Ed
theorem _root_.Go.Ed.EdsAt.drew {w : World} {B : Nat} {v : Value} {es : List EdM} (h : EdsAt w B v es) : EdsAt w.drew B v es := ⟨h.row, h.zon, h.var, h.sep⟩
theorem _root_.Go.Ed.EdsAt.old {w : World} {B : Nat} {v : Value} {es : List EdM} (h : EdsAt w B v es) : ∀ i (hi : i < es.length) b g, eb es[i] b = some g → g < w.heap.size := by
  intro i hi b g q
  cases b
  · exact ((h.zon i hi).lt g (by rw [zV_own]; exact q)).2
  · exact ((h.var i hi).lt g (by rw [vV_own]; exact q)).2
theorem infoRow : (Try.prog.info? 47).map (fun i => (i.zero, i.size, i.bytes)) = some (some (.slice none 0 0), 1, 24) := by kernel_rfl
set_option maxRecDepth 20000 in
set_option maxHeartbeats 8000000 in
theorem open_any (t : TitD) (x : TA) (zs : List ZonM) (w : World) (hs : Sizes t) (hT : TitAt w w.heap.size t x zs) (hc : checkT t = 0) :
    Calls Try.prog 81 #[.agg (titV t x)] w fun e w' => ∃ k : Wk, e = .returned (.tuple #[.pointer (some ⟨k.g, 0, none⟩), .int .i64 0]) ∧ WorkAt w' w.heap.size t x k ∧ Below w.heap.size w w' := by
  obtain ⟨w1, hw1⟩ : ∃ W, W = w.alloc (.cells (titV t x) 86) := ⟨_, rfl⟩
  have hb1 : Below w.heap.size w w1 := by rw [hw1]; exact (Below.refl _ _).alloc (Nat.le_refl _) _
  obtain ⟨gT, hgT⟩ : ∃ g, g = w.heap.size := ⟨_, rfl⟩
  have kT : Blk w1 gT 86 (titV t x) := by rw [hw1, hgT]; exact Blk.new _ _ _
  have hT1 := (hT.below hb1).mono hb1.size
  have hgl : gT < w1.heap.size := kT.lt
  have s3 := hs.s3
  have r0 := kT.cell 0
  have r1 := kT.cell 1
  have r2 := kT.cell 2
  have r3 := kT.cell 3
  have r4 := kT.cell 4
  have r5 := kT.cell 5
  have r6 := kT.cell 6
  have r7 := kT.cell 7
  simp [titV] at r0 r1 r2 r3 r4 r5 r6 r7
  have HCK := Lib.hid ((check_anyZ t x zs w1 hs hT1))
  have HT1 := Lib.hid hT1
  have HB1 := Lib.hid hb1
  have HW1 := Lib.hid hw1
  have HGT := Lib.hid hgT
  have KT := Lib.hid kT
  have HS := Lib.hid hs
  have HC := Lib.hid hc
  clear hb1 hw1 hgT kT hT1 hs hT hc
  have hmm := @run_makeMap Try.prog
  unfold titV at *
  go_enter Try.func81, Try.ntmps81
  go_upto_region 1 with fail
  rw [← HW1.out, ← HGT.out]
  go_upto_region 4 with (go_at_call 117; refine HCK.out.mono ?_; rintro e w2 ⟨rfl, hb2⟩; rw [HC.out]; have k2 := KT.out.below hb2 hgl; clear r0 r1 r2 r3 r4 r5 r6 r7; have r0 := k2.cell 0; have r1 := k2.cell 1; have r2 := k2.cell 2; have r3 := k2.cell 3; have r4 := k2.cell 4; have r5 := k2.cell 5; have r6 := k2.cell 6; have r7 := k2.cell 7; simp at r0 r1 r2 r3 r4 r5 r6 r7; have HB2 := Lib.hid hb2; have hg2 := k2.lt; clear hb2 k2)
  go_wp2_with fail
  generalize hW3 : World.alloc (World.alloc w2 _) _ = w3
  obtain ⟨gW, hgW⟩ : ∃ g, g = w2.heap.size := ⟨_, rfl⟩
  obtain ⟨gM, hgM⟩ : ∃ g, g = w2.heap.size + 1 := ⟨_, rfl⟩
  rw [← hgM, ← hgW]
  have kW : Blk w3 gW 161 (workC t x (.slice none 0 0) (.slice none 0 0) 0) := by
    rw [← hW3, hgW]; exact (Blk.new w2 161 _).alloc _
  have mM : MapIs (fun x : ArrK 64 => arrV .i8 x.1) (Value.int .i64) w3 gM [] := by
    have h0 := MapIs.new (w2.alloc (.cells (workC t x (.slice none 0 0) (.slice none 0 0) 0) 161)) (fun x : ArrK 64 => arrV .i8 x.1) (Value.int .i64)
    rw [World.size_alloc] at h0
    rw [← hW3, hgM]; exact h0
  have hb3 : Below w1.heap.size w1 w3 := by rw [← hW3]; exact (HB2.out.alloc HB2.out.size _).alloc (by have := HB2.out.size; simp; omega) _
  have HK0 := Lib.hid (chk_ok HC.out)
  have KW := Lib.hid kW
  have MM := Lib.hid mM
  have HB3 := Lib.hid hb3
  have HW3 := Lib.hid hW3
  have HGW := Lib.hid (show w1.heap.size ≤ gW by rw [hgW]; exact HB2.out.size)
  have HGM := Lib.hid (show w1.heap.size ≤ gM by rw [hgM]; have := HB2.out.size; omega)
  have hwm : gW ≠ gM := by omega
  have HWM := Lib.hid hwm
  clear kW mM hb3 hW3 hgW hgM hwm hmm r0 r1 r2 r3 r4 r5 r6 r7
  go_loopw [31] (fun i wr => ∃ (k : Nat) (es : List EdM) (v : Value) (m : List (ArrK 64 × Int)), k ≤ t.zones.length ∧ i = .int .i64 k ∧ Hid (es.map (·.1) = edsN t k) ∧ Hid (EdsAt wr w1.heap.size v es) ∧ Hid (Blk wr gW 161 (workC t x v (.slice none 0 0) 0)) ∧ Hid (MapIs (fun x : ArrK 64 => arrV .i8 x.1) (Value.int .i64) wr gM m ∧ Idx m (keysN t k)) ∧ Below w1.heap.size w1 wr) (fun i _ => t.zones.length - (intOf i).toNat)
  case atStart => exact ⟨0, [], _, [], Nat.zero_le _, rfl, rfl, EdsAt.nil _ _, KW, ⟨MM.out, rfl, fun j h => absurd h (by simp)⟩, HB3.out⟩
  case round =>
    obtain ⟨k, es, v, m, hk, rfl, HE, HEA, HKW, HM, hW⟩ := hrel
    have HW := Lib.hid hW
    have hgr : gT < wr.heap.size := Nat.lt_of_lt_of_le hgl hW.size
    clear hW
    by_cases hlt : k < t.zones.length
    · have hz : k < zs.length := by rw [HT1.out.zlen]; exact hlt
      obtain ⟨zb, zo, hxz, hzb, c0, c1, c2⟩ := Sl.atZon ((HT1.out.below HW.out).cZ) hz
      have hva := HT1.out.cV k hz
      have hzg := HT1.out.zget hz
      have hok := errZ_ok (HK0.out.ez k hlt)
      have hks := keysN_succ hlt (fun i hi => (errZ_ok (HK0.out.ez i (by omega))).2.2.1)
      rw [hzg] at hok hks
      have heds : edsN t (k + 1) = addZ (edsN t k) k (t.zones.getD k ⟨0, 0, []⟩) := rfl
      rw [hzg] at heds
      obtain ⟨⟨⟨cp, du, va⟩, vA, vc⟩, hzk⟩ : ∃ z, z = zs[k] := ⟨_, rfl⟩
      rw [← hzk] at c0 c1 c2 hva hzg hok hks heds
      dsimp only at c0 c1 c2 hva hzg hok hks heds
      have HVA := Lib.hid (fun W (hb : Below w1.heap.size w1 W) => (hva.below hb).mono hb.size)
      have HKS := Lib.hid hks
      have HEDS := Lib.hid heds
      have HOK := Lib.hid hok
      obtain ⟨wz, hwz⟩ : ∃ W, W = wr.alloc (.cells #[.int .i64 cp, .int .i64 du, .slice vA va.length vc] 98) := ⟨_, rfl⟩
      obtain ⟨gZ, hgZ⟩ : ∃ g, g = wr.heap.size := ⟨_, rfl⟩
      have kz : Blk wz gZ 98 #[.int .i64 cp, .int .i64 du, .slice vA va.length vc] := by rw [hwz, hgZ]; exact Blk.new _ _ _
      have HWZ1 := Lib.hid (show Below w1.heap.size w1 wz by rw [hwz]; exact HW.out.alloc HW.out.size _)
      have HMZ := Lib.hid (show MapIs (fun x : ArrK 64 => arrV .i8 x.1) (Value.int .i64) wz gM m by rw [hwz]; exact HM.out.1.alloc _)
      have HEZ := Lib.hid (show EdsAt wz w1.heap.size v es by rw [hwz]; exact HEA.out.alloc _)
      have HKZ := Lib.hid (show Blk wz gW 161 (workC t x v (.slice none 0 0) 0) by rw [hwz]; exact HKW.out.alloc _)
      have q0 := kz.cell 0
      have q2 := kz.cell 2
      simp at q0 q2
      have hgz : gZ < wz.heap.size := kz.lt
      have HWZ := Lib.hid hwz
      have HGZ := Lib.hid hgZ
      have KZ := Lib.hid kz
      have HZK := Lib.hid hzk
      rw [hxz]
      clear hwz hgZ kz hzg hzk hva hxz hks heds hok
      by_cases hcp : cp = 0
      · subst hcp
        go_upto_region 9 with fail
        rw [← HWZ.out, ← HGZ.out]
        go_wp2_with fail
        go_roundw
        case rel =>
          refine ⟨k + 1, es, v, m, by omega, by go_num, ?_, HEZ.out, HKZ.out, ⟨HMZ.out, ?_⟩, HWZ1.out⟩
          · exact (show es.map (·.1) = edsN t (k + 1) by rw [HEDS.out, HE.out]; simp [addZ])
          · rw [HKS.out]; simp only [if_true]; exact HM.out.2
        case measure => simp [intOf]; omega
      · have hv64 : va.length ≤ 64 := by rw [HOK.out.2.2.1]; exact HK0.out.ok.c1
        have HPL := Lib.hid (padK_len hv64)
        have ht1 : (cp == 0) = false := by simpa using hcp
        obtain ⟨kc, hkc⟩ : ∃ kc, kc = ((padK va).map (Value.int .i8)).toArray := ⟨_, rfl⟩
        have hsz : kc.size = 64 := by rw [hkc]; simp [HPL.out]
        have hone : kc.all (·.oneCell') = true := by rw [hkc]; exact all_oneCell_toArray (by intro v hv; simp at hv; obtain ⟨a, _, rfl⟩ := hv; rfl)
        have HKO := Lib.hid (show Calls Try.prog 118 #[.slice vA va.length vc] wz fun e w' => e = .returned (.agg kc) ∧ Below wz.heap.size wz w' by rw [hkc]; exact keyOf_any vA vc va wz hv64 HOK.out.2.2.2 (HVA.out wz HWZ1.out))
        have HKC := Lib.hid hkc
        have HSZ := Lib.hid hsz
        have HONE := Lib.hid hone
        have HCP := Lib.hid hcp
        clear hkc hsz hone hcp
        go_upto_region 9 with fail
        rw [← HWZ.out, ← HGZ.out]
        go_upto_region 11 with first
          | (go_at_call 118; refine HKO.out.mono ?_; rintro e w6 ⟨rfl, hb6⟩; have HB6 := Lib.hid hb6; clear hb6)
          | (refine wpList_store_mid rfl 197 _ _ rfl w6.heap.size 0 kc rfl rfl ((Blk.new w6 197 _).there (by rw [HSZ.out]; exact Nat.le_refl _)) (by rw [HSZ.out]; exact info164) HONE.out ?_)
        generalize hwk : World.setCells _ _ 0 _ = wk
        obtain ⟨gK, hgK⟩ : ∃ g, g = w6.heap.size := ⟨_, rfl⟩
        rw [← hgK] at hwk ⊢
        have kK : Blk wk gK 197 kc := by
          rw [← hwk, hgK]
          exact (Blk.new w6 197 _).setAll (by rw [HSZ.out]; rfl)
        have hb6k : Below wz.heap.size wz wk := by
          rw [← hwk]
          exact setCells_below (by rw [hgK]; exact HB6.out.size) _ _ _ (HB6.out.alloc HB6.out.size _)
        have HMK := Lib.hid (HMZ.out.below hb6k HMZ.out.lt)
        have HEK := Lib.hid (HEZ.out.below hb6k)
        have hWK := HKZ.out.below hb6k HKZ.out.lt
        have hZK := KZ.out.below hb6k hgz
        have HWK1 := Lib.hid (HWZ1.out.trans (hb6k.mono HWZ1.out.size))
        have HKW2 := Lib.hid hWK
        have HZ2 := Lib.hid hZK
        have KK := Lib.hid kK
        have HIX := HM.out.2
        have HEL := Lib.hid (show es.length = (edsN t k).length by rw [← HE.out]; simp)
        have heln : es.length ≤ k := by rw [HEL.out]; exact edsN_len t k
        obtain ⟨A0, c0', hv0⟩ := own_shape HEK.out.row
        subst hv0
        clear hwk hgK kK hb6k hWK hZK HB6 q0 q2 c0 c1 c2
        have hlen := keysN_len t k
        obtain ⟨KX, hKX⟩ : ∃ x : ArrK 64, x = ⟨padK va, HPL.out⟩ := ⟨_, rfl⟩
        have hkcv : Value.agg kc = arrV .i8 KX.1 := by rw [HKC.out, hKX]; rfl
        have HKCV := Lib.hid hkcv
        have HKX := Lib.hid (show KX.1 = padK va by rw [hKX])
        have hks2 := HKS.out
        rw [if_neg HCP.out] at hks2
        obtain ⟨nv, hnv⟩ : ∃ nv : Int, ((mget m KX).map (Value.int .i64)).getD (.int .i64 0) = .int .i64 nv := by cases mget m KX <;> exact ⟨_, rfl⟩
        obtain ⟨ob, hob⟩ : ∃ ob, ob = (mget m KX).isSome := ⟨_, rfl⟩
        have HNV := Lib.hid hnv
        have HOB := Lib.hid hob
        have HKS2 := Lib.hid hks2
        clear hkcv hKX hnv hob hks2 hlen HKS
        go_upto_if 49 with first
          | (refine wpList_load_row rfl 197 _ rfl gK rfl 197 kc (0, 0) _ KK.out Try.underlying197 rfl (by rw [HSZ.out]; exact info164) ?_)
          | (at_lookup; refine wpList_lookup rfl (.tmp 43) (.tmp 44) 194 true rfl Try.underlying194 keyLaw162 zero3 HMK.out KX rfl HKCV.out ?_; simp only [if_true, HNV.out, ← HOB.out])
        go_cut [10] (fun p wx => ∃ (n : Nat) (es1 : List EdM) (g1 c1 : Nat) (m1 : List (ArrK 64 × Int)), p = .int .i64 n ∧ Hid (∃ h : n < es1.length, es1[n].1.variants = va ∧ es1.map (·.1) = preZ (edsN t k) ⟨cp, du, va⟩) ∧ Hid (EdsAt wx w1.heap.size (.slice (some ⟨g1, 0, none⟩) es1.length c1) es1) ∧ Hid (Blk wx gW 161 (workC t x (.slice (some ⟨g1, 0, none⟩) es1.length c1) (.slice none 0 0) 0)) ∧ Hid (MapIs (fun x : ArrK 64 => arrV .i8 x.1) (Value.int .i64) wx gM m1 ∧ Idx m1 (keysN t (k + 1))) ∧ Hid (Blk wx gZ 98 #[.int .i64 cp, .int .i64 du, .slice vA va.length vc]) ∧ Below w1.heap.size w1 wx)
        case first =>
          cases hmg : mget m KX with
          | some n' =>
            obtain ⟨n, hn, rfl, hnk⟩ := HIX.found hmg
            have hobt : ob = true := by rw [HOB.out, hmg]; rfl
            have hnvn : nv = n := by have := HNV.out; rw [hmg] at this; simpa using this.symm
            have hne : n < es.length := by rw [HEL.out, ← keysN_len]; exact hn
            obtain ⟨gE, cE, hve, _, _⟩ := HEK.out.row.form (by omega)
            have hvar : es[n].1.variants = va := by
              have h1 : (keysN t k)[n] = padK es[n].1.variants := by
                have : keysN t k = es.map fun e => padK e.1.variants := by unfold keysN; rw [← HE.out]; simp
                simp [this]
              rw [hnk, HKX.out] at h1
              refine (padK_inj ?_ h1).symm
              have := (edsN_bd HK0.out k (by omega) es[n].1 (by rw [← HE.out]; exact List.mem_map.2 ⟨_, List.getElem_mem hne, rfl⟩)).vn
              rw [this]; exact HOK.out.2.2.1
            have hpz : es.map (·.1) = preZ (edsN t k) ⟨cp, du, va⟩ := by
              rw [preZ_any]
              · exact HE.out
              · rw [← HE.out]; exact List.mem_map.2 ⟨es[n].1, List.mem_map.2 ⟨_, List.getElem_mem hne, rfl⟩, hvar⟩
            have hkk : keysN t (k + 1) = keysN t k := by
              rw [HKS2.out, if_pos]
              rw [← HKX.out, ← hnk]; exact List.getElem_mem hn
            rw [hve] at HEK HKW2
            subst hnvn
            subst hobt
            have HKK := Lib.hid hkk
            have HVAR := Lib.hid hvar
            have HPZ := Lib.hid hpz
            clear hve hvar hpz hkk hmg hnk
            go_wp2_with fail
            go_meet
            case rel => exact ⟨n, es, gE, cE, m, rfl, ⟨hne, HVAR.out, HPZ.out⟩, HEK.out, HKW2.out, ⟨HMK.out, by rw [HKK.out]; exact HIX⟩, HZ2.out, HWK1.out⟩
          | none =>
            obtain rfl : ob = false := by rw [HOB.out, hmg]; rfl
            have hnk : padK va ∉ keysN t k := by
              have h1 := (mget_none_iff m KX).1 hmg
              intro h2
              rw [← HKX.out, ← HIX.1] at h2
              obtain ⟨y, hy, hq⟩ := List.mem_map.1 h2
              exact h1 (List.mem_map.2 ⟨y, hy, Subtype.ext hq⟩)
            have hkk : keysN t (k + 1) = keysN t k ++ [KX.1] := by rw [HKS2.out, if_neg hnk, HKX.out]
            have hpz : preZ (edsN t k) ⟨cp, du, va⟩ = edsN t k ++ [⟨[], 0, 0, 86400, va⟩] := by
              rw [preZ_none]
              intro h
              obtain ⟨e, he, hq⟩ := List.mem_map.1 h
              exact hnk (List.mem_map.2 ⟨e, he, by rw [show e.variants = va from hq]⟩)
            have hidx := HIX.more hmg
            have HIDX := Lib.hid hidx
            have HKK := Lib.hid hkk
            have HPZ := Lib.hid hpz
            have k8 := HKW2.out.cell 8
            simp [workC] at k8
            have hkl : (keysN t k).length = es.length := by rw [keysN_len, ← HEL.out]
            have HKL := Lib.hid hkl
            clear hidx hkk hpz hnk hmg hkl
            go_upto_region 15 with first
              | (refine wpList_load_row rfl 197 _ rfl gK rfl 197 kc (0, 0) _ KK.out Try.underlying197 rfl (by rw [HSZ.out]; exact info164) ?_)
              | (at_mapUpdate; refine wpList_update rfl (.tmp 55) (.tmp 56) (.tmp 57) 194 rfl Try.underlying194 keyLaw162 HMK.out KX (es.length : Int) rfl HKCV.out rfl ?_; intro w7 hm7 hg7 hs7; have HM7 := Lib.hid hm7; have HG7 := Lib.hid hg7; have HS7 := Lib.hid hs7; clear hm7 hg7 hs7)
            have k7 := HKW2.out.grown HG7.out (fun e => HWM.out (by injection e))
            have z7 := HZ2.out.grown HG7.out (fun e => by injection e with e; subst e; obtain ⟨_, _, h1, _⟩ := HMK.out; have h2 : _ = some _ := HZ2.out; rw [h1] at h2; cases h2)
            have e7 := HEK.out.grown HG7.out (map_kind HMK.out)
            have hb7 := HWK1.out.grown HG7.out HWK1.out.size (fun j hj => by injection hj with hj; rw [← hj]; exact HGM.out)
            have hk7 := k7.lt
            have hz7 := z7.lt
            have SB := Lib.hid (show ∀ W, Below w7.heap.size w7 W → W.cell? ⟨gZ, 2, none⟩ = some (.slice vA va.length vc) from fun W hb => by rw [(z7.below hb hz7).cell]; simp)
            have SW := Lib.hid (show ∀ W, Below w7.heap.size w7 W → W.cell? ⟨gW, 8, none⟩ = some (.slice A0 es.length c0') from fun W hb => by rw [(k7.below hb hk7).cell]; simp [workC])
            have y7 := SW.out w7 (Below.refl _ _)
            have HE7 := Lib.hid e7
            have HB7 := Lib.hid hb7
            have K7 := Lib.hid k7
            have Z7 := Lib.hid z7
            obtain ⟨i0, hi, hz0, hz1, hz2⟩ := info_parts infoEd
            have HI := Lib.hid hi
            have hh7 := hb7.size
            have HAP := Lib.hid (show ∀ (W w9 : World), Below w7.heap.size w7 W → W.grownBy w9 (Value.slice A0 es.length c0').ownBlock → Blk w9 gW 161 (workC t x (.slice A0 es.length c0') (.slice none 0 0) 0) ∧ Blk w9 gZ 98 #[.int .i64 cp, .int .i64 du, .slice vA va.length vc] ∧ MapIs (fun x : ArrK 64 => arrV .i8 x.1) (Value.int .i64) w9 gM (mset m KX (es.length : Int)) ∧ Below w1.heap.size w1 w9 from fun W w9 hb hg => by
              have er := (e7.below hb).row
              have kk := k7.below hb hk7
              have zz := z7.below hb hz7
              have mm := HM7.out.below hb HM7.out.lt
              refine ⟨kk.grown hg (own_blk_ne er kk (by decide)), zz.grown hg (own_blk_ne er zz (by decide)), mm.same (hg.block gM mm.lt (fun e => ?_)), (hb7.trans (hb.mono hb7.size)).grown hg (Nat.le_trans hb7.size hb.size) (fun j hj => (er.lt j hj).1)⟩
              rcases er.2 with ⟨h0, _⟩ | ⟨g2, cap, cur, hv, _, hc, _⟩
              · rw [h0] at e; cases e
              · rw [hv] at e
                have e : gM = g2 := by simpa [Value.ownBlock] using e
                subst e
                exact map_kind mm cur 200 (.inr rfl) hc)
            have hva64 : va.length * 8 ≤ 140737488355328 := by omega
            have hm1 : es.length + 1 ≤ maxLen := by simp only [maxLen]; omega
            have hm2 : (es.length + 1) * 72 ≤ 140737488355328 := by omega
            clear k7 z7 e7 hb7 k8 hi
            have q7 := SB.out w7 (Below.refl _ _)
            go_region_law (first
                | (go_simp; go_at_call 58; refine (cloneOwn_anyZ vA vc va _ hva64 (HVA.out _ (by repeat (first | exact HB7.out | refine Below.drew ?_)))).mono ?_; rintro e w8 ⟨A', c', rfl, hown8, hb8⟩; have HB8 := Lib.hid (((Below.refl w7.heap.size w7).drew).trans hb8); have HO8 := Lib.hid (show w8.ownsRow w7.heap.size 3 1 (.slice A' va.length c') va.length (va.map (Value.int .i64)) from hown8); have hz78 := HB8.out.size; have y8 := SW.out w8 HB8.out; have q8 := SB.out w8 HB8.out; have hk8 := Nat.lt_of_lt_of_le hk7 hz78; clear hb8 hown8; go_wp2_with fail)
                | (refine step_append_lies _ rfl (.tmp 62) (.tmp 67) 88 rfl w1.heap.size 200 i0 _ 5 72 Try.underlying88 HI.out hz0 hz1 hz2 rfl (by decide) (.slice A0 es.length c0') es.length (es.flatMap encEd) (by rfl) ((HE7.out.below (by repeat (first | exact HB8.out | refine Below.drew ?_ | refine Below.alloc ?_ (by first | exact HB8.out.size | simp) _))).row) _ 1 1 [.slice none 0 0, .int .i64 0, .int .i64 0, .int .i64 86400, .slice A' va.length c'] (by rfl) rfl (World.news_of_block (cs := #[.slice none 0 0, .int .i64 0, .int .i64 0, .int .i64 86400, .slice A' va.length c']) (t := 200) (fr := (0, 0)) (by show Blk _ _ 200 #[.slice none 0 0, .int .i64 0, .int .i64 0, .int .i64 86400, .slice A' va.length c']; repeat (first | exact Blk.new _ _ _ | refine Blk.drew ?_))) (by intro u hu; simp at hu; rcases hu with rfl | rfl | rfl | rfl <;> rfl) (by decide) hm1 hm2 (by simp; omega) _ rfl ?_
                   intro g9 cap9 w9 hown9 hgrow9 hat9 hlt9
                   have h9 := HAP.out _ w9 (by repeat (first | exact HB8.out | refine Below.drew ?_ | refine Below.alloc ?_ (by first | exact HB8.out.size | simp) _))  hgrow9
                   have H9 := Lib.hid h9
                   have hS9 : w9.cell? ⟨gZ, 2, none⟩ = some (.slice vA va.length vc) := by rw [h9.2.1.cell]; simp
                   have hy9 : w9.cell? ⟨gW, 8, none⟩ = some (.slice A0 es.length c0') := by rw [h9.1.cell]; simp [workC]
                   have hT9 : ∀ u, (w9.setCell ⟨gW, 8, none⟩ u).cell? ⟨gZ, 2, none⟩ = some (.slice vA va.length vc) := fun u => by rw [(h9.2.1.far (p := ⟨gW, 8, none⟩) (fun e => by exact Blk.ne_ h9.1 h9.2.1 (by decide) e.symm) u).cell]; simp
                   have hf9 := h9.1.frozen 8
                   have HG9 := Lib.hid hgrow9
                   have HO9 := Lib.hid hown9
                   clear h9 hgrow9 hown9 hat9))
            all_goals
              have hpush := EdsAt.push (HE7.out.below (by repeat (first | exact HB8.out | refine Below.drew ?_ | refine Below.alloc ?_ (by first | exact HB8.out.size | simp) _))) (⟨[], 0, 0, 86400, va⟩, ⟨none, 0, A', c'⟩) ⟨rfl, rfl, rfl⟩ (own_belowV HO8.out (by repeat (first | exact Below.refl _ _ | refine Below.drew ?_ | refine Below.alloc ?_ (by simp) _))) hh7 HE7.out.old (by simpa [encEd] using HO9.out) HG9.out
              have hfin := hpush.set_ H9.out.1 (by decide) (by decide) 8 (.slice (some ⟨g9, 0, none⟩) (es.length + 1) cap9)
              have HFIN := Lib.hid hfin
              clear hpush hfin
              go_wp2_with fail
              go_meet
              refine ⟨es.length, es ++ [(⟨[], 0, 0, 86400, va⟩, ⟨none, 0, A', c'⟩)], g9, cap9, _, rfl, ⟨by simp, by simp, by rw [HPZ.out, ← HE.out]; simp⟩, ?_, ?_, ⟨H9.out.2.2.1.same (Below.heap_setCell _ _ _ _ (by exact fun e => HWM.out e.symm)), ?_⟩, H9.out.2.1.far (by exact fun e => Blk.ne_ H9.out.1 H9.out.2.1 (by decide) e.symm) _, H9.out.2.2.2.setCell (by exact HGW.out) _⟩
              · exact Lib.hid (by simpa using HFIN.out)
              · have := H9.out.1.set_ 8 (.slice (some ⟨g9, 0, none⟩) (es.length + 1) cap9)
                exact Lib.hid (by simpa [workC] using this)
              · rw [HKK.out]
                have := HIDX.out
                rw [HKL.out] at this
                exact this
        case rest =>
          obtain ⟨n, es1, g1, c1, m1, rfl, HN, HE1, HK1, HM1, HZ1, hW1⟩ := hcut
          obtain ⟨hn, hvn, hmn⟩ := HN.out
          have HMN := Lib.hid hmn
          have HVN := Lib.hid hvn
          have HW1c := Lib.hid hW1
          obtain ⟨⟨ed, ad⟩, hen⟩ : ∃ e, e = es1[n] := ⟨_, rfl⟩
          have hmem : ed ∈ preZ (edsN t k) ⟨cp, du, va⟩ := by rw [← hmn]; exact List.mem_map.2 ⟨(ed, ad), by rw [hen]; exact List.getElem_mem hn, rfl⟩
          have hbe : 0 ≤ ed.copies ∧ ed.copies ≤ 1000000 * (k : Int) ∧ ed.zones.length ≤ k := by
            unfold preZ at hmem
            split at hmem
            · have := edsN_bd HK0.out k (by omega) ed hmem; exact ⟨by have := this.c0; omega, this.c1, this.zn⟩
            · rcases List.mem_append.1 hmem with h | h
              · have := edsN_bd HK0.out k (by omega) ed h; exact ⟨by have := this.c0; omega, this.c1, this.zn⟩
              · simp at h; subst h; simp; omega
          have hl1 : es1.length ≤ 13 := by
            have h1 : es1.length = (preZ (edsN t k) ⟨cp, du, va⟩).length := by rw [← hmn]; simp
            have h2 : (preZ (edsN t k) ⟨cp, du, va⟩).length ≤ (edsN t k).length + 1 := by unfold preZ; split <;> simp
            have := edsN_len t k
            have := HK0.out.z1
            omega
          have hz12 := HK0.out.z1
          have y8 := HK1.out.cell 8
          simp [workC] at y8
          have a0 := (HE1.out.at_ hn 0 (by omega))
          have a1 := (HE1.out.at_ hn 1 (by omega))
          have a3 := (HE1.out.at_ hn 3 (by omega))
          rw [← hen] at a0 a1 a3
          simp [encEd] at a0 a1 a3
          obtain ⟨p0, f0⟩ := a0
          have hgz1 := HZ1.out.lt
          have hrow0 := HE1.out.zon n hn
          rw [← hen] at hrow0
          have HROW0 := Lib.hid (show wc.ownsRow w1.heap.size 3 1 (.slice ad.z ed.zones.length ad.cz) ed.zones.length (ed.zones.map (Value.int .i64)) from hrow0)
          obtain ⟨i0, hi, hz0, hz1, hz2⟩ := info_parts infoInt
          have HI := Lib.hid hi
          have HEN := Lib.hid hen
          have hwc := hW1.size
          have hmz : ed.zones.length + 1 ≤ maxLen := by simp only [maxLen]; omega
          have hmy : (ed.zones.length + 1) * 8 ≤ 140737488355328 := by omega
          have HR8 := Lib.hid (show ∀ w8, (wc.alloc (.cells #[.int .i64 (k : Int)] 3)).grownBy w8 (Value.slice ad.z ed.zones.length ad.cz).ownBlock → w8.ownsRow w1.heap.size 200 5 (.slice (some ⟨g1, 0, none⟩) es1.length c1) es1.length (es1.flatMap encEd) ∧ Blk w8 gZ 98 #[.int .i64 cp, .int .i64 du, .slice vA va.length vc] ∧ Blk w8 gW 161 (workC t x (.slice (some ⟨g1, 0, none⟩) es1.length c1) (.slice none 0 0) 0) ∧ MapIs (fun x : ArrK 64 => arrV .i8 x.1) (Value.int .i64) w8 gM m1 ∧ Below w1.heap.size w1 w8 from fun w8 hg => by
            have hr := HE1.out.row.alloc (.cells #[.int .i64 (k : Int)] 3)
            have hz := HROW0.out.alloc (.cells #[.int .i64 (k : Int)] 3)
            refine ⟨hr.kept hg (own_own_ne hr hz (by decide)), (HZ1.out.alloc _).grown hg (own_blk_ne hz (HZ1.out.alloc _) (by decide)), (HK1.out.alloc _).grown hg (own_blk_ne hz (HK1.out.alloc _) (by decide)), (HM1.out.1.alloc _).same (hg.block gM (HM1.out.1.alloc _).lt (fun e => ?_)), (HW1c.out.alloc HW1c.out.size _).grown hg (by have := HW1c.out.size; simp; omega) (fun j hj => (hz.lt j hj).1)⟩
            rcases hz.2 with ⟨h0, _⟩ | ⟨g2, cap, cur, hv, _, hc, _⟩
            · rw [h0] at e; cases e
            · rw [hv] at e
              have e : gM = g2 := by simpa [Value.ownBlock] using e
              subst e
              exact map_kind (HM1.out.1.alloc _) cur 3 (.inl rfl) hc)
          clear hvn hmn hW1 hen hmem hrow0 hi a1 a3
          go_wp2_with (at_builtin; refine wpList_append_lies _ rfl (.tmp 81) (.tmp 83) 47 rfl w1.heap.size 3 i0 _ 1 8 Try.underlying47 HI.out hz0 hz1 hz2 rfl (by decide) (.slice ad.z ed.zones.length ad.cz) ed.zones.length (ed.zones.map (Value.int .i64)) rfl (HROW0.out.alloc _) ⟨wc.heap.size, 0, none⟩ 1 1 [.int .i64 (k : Int)] rfl rfl (news_of1 wc 3 #[.int .i64 (k : Int)]) (by intro u hu; simp at hu; subst hu; rfl) (by decide) hmz hmy (by simp; omega) (wc.heap.size + 1) (by simp) ?_; intro g2 cap2 w8 hown8 hgrow8 hat8 hlt8; have HO8 := Lib.hid hown8; have HG8 := Lib.hid hgrow8; have HAT8 := Lib.hid hat8; have h8 := HR8.out w8 hgrow8; have p8 := h8.1.cellAt (n * 5) (by omega); rw [show n * 5 = n * 5 + 0 from rfl, flat_getZ es1 n 0 hn (by omega), ← HEN.out] at p8; simp [encEd] at p8; have f8 := h8.1.frozenAt (n * 5); have H8 := Lib.hid h8; clear hown8 hgrow8 hat8 h8)
          have hg1z : g1 ≠ gZ := fun e => own_blk_ne H8.out.1 H8.out.2.1 (by decide) (by rw [e]; rfl)
          have hg1w : g1 ≠ gW := fun e => own_blk_ne H8.out.1 H8.out.2.2.1 (by decide) (by rw [e]; rfl)
          have hg1m : g1 ≠ gM := by
            intro e
            rcases H8.out.1.2 with ⟨h0, _⟩ | ⟨g2, cap, cur, hv, _, hc, _⟩
            · cases h0
            · cases hv
              rw [e] at hc
              exact map_kind H8.out.2.2.2.1 cur 200 (.inr rfl) hc
          have hBg1 : w1.heap.size ≤ g1 := (H8.out.1.lt g1 rfl).1
          have ea := EdsAt.addz (HE1.out.alloc (.cells #[.int .i64 (k : Int)] 3)) hn k g2 cap2 (by rw [← HEN.out]; exact HO8.out) (by rw [← HEN.out]; exact HG8.out) (by rw [← HEN.out]; rcases HAT8.out with h | h; (exact .inl h); (exact .inr (by rw [h]; simp)))
          rw [← HEN.out] at ea
          dsimp only at ea
          obtain ⟨e2, he2⟩ : ∃ e2 : EdM, e2 = (⟨ed.zones ++ [(k : Int)], ed.copies, ed.ready, ed.due, ed.variants⟩, ⟨some ⟨g2, 0, none⟩, cap2, ad.v, ad.cv⟩) := ⟨_, rfl⟩
          rw [← he2] at ea
          generalize hwA : World.setCell w8 _ _ = wA at ea ⊢
          have zA : Blk wA gZ 98 #[.int .i64 cp, .int .i64 du, .slice vA va.length vc] := by rw [← hwA]; exact H8.out.2.1.far (by exact hg1z.symm) _
          have kA : Blk wA gW 161 (workC t x (.slice (some ⟨g1, 0, none⟩) es1.length c1) (.slice none 0 0) 0) := by rw [← hwA]; exact H8.out.2.2.1.far (by exact hg1w.symm) _
          have mA : MapIs (fun x : ArrK 64 => arrV .i8 x.1) (Value.int .i64) wA gM m1 := by rw [← hwA]; exact H8.out.2.2.2.1.same (Below.heap_setCell _ _ _ _ (by exact hg1m.symm))
          have bA : Below w1.heap.size w1 wA := by rw [← hwA]; exact H8.out.2.2.2.2.setCell (by exact hBg1) _
          have hn2 : n < (es1.set n e2).length := by simpa using hn
          have hg2 : (es1.set n e2)[n] = e2 := by simp
          have y1 := ea.atm (by simp) hn2 1 (by omega)
          rw [hg2, he2] at y1
          simp [encEd] at y1
          obtain ⟨p1, f1⟩ := y1
          have q0 := zA.cell 0
          simp at q0
          have hcpb := HOK.out.1
          have hw1 := IntWalk.i64_in (ed.copies + cp) (by omega)
          have EA := Lib.hid ea
          have ZA := Lib.hid zA
          have KA := Lib.hid kA
          have MA := Lib.hid mA
          have BA := Lib.hid bA
          have HG2 := Lib.hid hg2
          have HE2 := Lib.hid he2
          clear ea zA kA mA bA hwA hg2 he2 p8 f8 y8 p0 f0
          go_region
          all_goals
            obtain ⟨e3, he3⟩ : ∃ e3 : EdM, e3 = (⟨ed.zones ++ [(k : Int)], ed.copies + cp, ed.ready, ed.due, ed.variants⟩, ⟨some ⟨g2, 0, none⟩, cap2, ad.v, ad.cv⟩) := ⟨_, rfl⟩
            have eb := (EA.out.putm (by simp) hn2 e3 1 (.int .i64 (ed.copies + cp)) (by omega) (by rw [HG2.out, HE2.out, he3]; simp [encEd]) (by rw [HG2.out, HE2.out, he3]; simp)).drew
            rw [List.set_set] at eb
            have zB := (ZA.out.far (p := ⟨g1, n * 5 + 1, none⟩) (by exact hg1z.symm) (.int .i64 (ed.copies + cp))).drew
            have kB := (KA.out.far (p := ⟨g1, n * 5 + 1, none⟩) (by exact hg1w.symm) (.int .i64 (ed.copies + cp))).drew
            have mB := (MA.out.same (Below.heap_setCell wA ⟨g1, n * 5 + 1, none⟩ (.int .i64 (ed.copies + cp)) gM (by exact hg1m.symm))).drew
            have bB := (BA.out.setCell (p := ⟨g1, n * 5 + 1, none⟩) (by exact hBg1) (.int .i64 (ed.copies + cp))).drew
            generalize hwB : World.drew _ = wB at eb zB kB mB bB ⊢
            have hn3 : n < (es1.set n e3).length := by simpa using hn
            have hg3 : (es1.set n e3)[n] = e3 := by simp
            have y3 := eb.atm (by simp) hn3 3 (by omega)
            rw [hg3, he3] at y3
            simp [encEd] at y3
            obtain ⟨p3, f3⟩ := y3
            have q1 := zB.cell 1
            simp at q1
            have EB := Lib.hid eb
            have ZB := Lib.hid zB
            have KB := Lib.hid kB
            have MB := Lib.hid mB
            have BB := Lib.hid bB
            have HG3 := Lib.hid hg3
            have HE3 := Lib.hid he3
            clear eb zB kB mB bB hwB hg3 he3 p1 f1 q0 hw1
            go_wp2_with fail
            go_region
            all_goals
              obtain ⟨e4, he4⟩ : ∃ e4 : EdM, e4 = (⟨ed.zones ++ [(k : Int)], ed.copies + cp, ed.ready, min ed.due du, ed.variants⟩, ⟨some ⟨g2, 0, none⟩, cap2, ad.v, ad.cv⟩) := ⟨_, rfl⟩
              have ec := (EB.out.putm (by simp) hn3 e4 3 (.int .i64 (min ed.due du)) (by omega) (by rw [HG3.out, HE3.out, he4]; simp [encEd]) (by rw [HG3.out, HE3.out, he4]; simp)).drew
              rw [List.set_set] at ec
              have kC := (KB.out.far (p := ⟨g1, n * 5 + 3, none⟩) (by exact hg1w.symm) (.int .i64 (min ed.due du))).drew
              have mC := (MB.out.same (Below.heap_setCell wB ⟨g1, n * 5 + 3, none⟩ (.int .i64 (min ed.due du)) gM (by exact hg1m.symm))).drew
              have bC := (BB.out.setCell (p := ⟨g1, n * 5 + 3, none⟩) (by exact hBg1) (.int .i64 (min ed.due du))).drew
              have hfin : (es1.set n e4).map (·.1) = edsN t (k + 1) := by
                have hnp : n < (preZ (edsN t k) ⟨cp, du, va⟩).length := by rw [← HMN.out]; simpa using hn
                have hgp : (preZ (edsN t k) ⟨cp, du, va⟩)[n] = ed := by
                  have : (es1.map (·.1))[n]'(by simpa using hn) = ed := by rw [List.getElem_map, ← HEN.out]
                  simpa only [HMN.out] using this
                have hvd : ed.variants = va := by have := HVN.out; rw [← HEN.out] at this; exact this
                rw [HEDS.out, addZ_at (edsN_nodup t k) (show (⟨cp, du, va⟩ : ZonD).copies ≠ 0 from HCP.out) hnp (by rw [hgp]; exact hvd), hgp, ← HMN.out, List.map_set, he4]
                rfl
              have EC := Lib.hid ec
              have KC := Lib.hid kC
              have MC := Lib.hid mC
              have BC := Lib.hid bC
              have HFIN := Lib.hid hfin
              clear ec kC mC bC hfin he4 p3 f3 q1
              go_wp2_with fail
              go_roundw
              case rel =>
                exact ⟨k + 1, es1.set n e4, _, m1, by omega, by go_num, HFIN.out, EC.out, KC.out, ⟨MC.out, HM1.out.2⟩, BC.out⟩
              case measure => simp [intOf]; omega
    · obtain rfl : k = t.zones.length := by omega
      have hel : es.length = (edsN t t.zones.length).length := by rw [← HE.out]; simp
      have hpos : 1 ≤ es.length := by rw [hel]; exact HK0.out.n0
      have hes7 : es.length ≤ 7 := by rw [hel]; exact HK0.out.n1
      obtain ⟨g1, c1, rfl, hBg, _⟩ := HEA.out.row.form (by omega)
      have hw8 := HKW.out.cell 8
      simp [workC] at hw8
      have HBD := Lib.hid (fun i (h : i < es.length) => edsN_bd HK0.out t.zones.length (Nat.le_refl _) es[i].1 (by rw [← HE.out]; exact List.mem_map.2 ⟨_, List.getElem_mem h, rfl⟩))
      have hgw1 := HKW.out.lt
      have hg1w : g1 ≠ gW := fun e => own_blk_ne HEA.out.row HKW.out (by decide) (by rw [e]; rfl)
      clear hel
      go_wp2_with fail
      clear hw8 hgr
      go_loopw [112] (fun i wr2 => ∃ j : Nat, j ≤ es.length ∧ i = .int .i64 j ∧ Hid (EdsAt wr2 w1.heap.size (.slice (some ⟨g1, 0, none⟩) es.length c1) (rdyL t es j)) ∧ Hid (Blk wr2 gW 161 (workC t x (.slice (some ⟨g1, 0, none⟩) es.length c1) (.slice none 0 0) 0)) ∧ Below w1.heap.size w1 wr2) (fun i _ => es.length - (intOf i).toNat)
      case atStart => exact ⟨0, Nat.zero_le _, rfl, by simpa [rdyL] using HEA, HKW, HW.out⟩
      case round =>
        obtain ⟨j, hj, rfl, HER, HKR, hX⟩ := hrel
        have HX := Lib.hid hX
        clear hX
        have y8 := HKR.out.cell 8
        simp [workC] at y8
        have hgw2 := HKR.out.lt
        by_cases hlj : j < es.length
        · have hjl : j < (rdyL t es j).length := by rw [rdyL_len]; exact hlj
          have hgj := rdyL_get (t := t) hlj
          obtain ⟨⟨ed, ad⟩, hed⟩ : ∃ e, e = es[j] := ⟨_, rfl⟩
          have a0 := HER.out.atm (rdyL_len _ _ _).symm hjl 0 (by omega)
          have a1 := HER.out.atm (rdyL_len _ _ _).symm hjl 1 (by omega)
          have a2 := HER.out.atm (rdyL_len _ _ _).symm hjl 2 (by omega)
          have a3 := HER.out.atm (rdyL_len _ _ _).symm hjl 3 (by omega)
          have a4 := HER.out.atm (rdyL_len _ _ _).symm hjl 4 (by omega)
          rw [hgj, ← hed] at a0 a1 a2 a3 a4
          simp [encEd] at a0 a1 a2 a3 a4
          have hva := HER.out.var j hjl
          rw [hgj, ← hed] at hva
          have hbd := HBD.out j hlj
          rw [← hed] at hbd
          dsimp only at hbd
          have hg12 := (HER.out.row.lt g1 rfl).2
          have hrd := fun W (hb : Below wr.heap.size wr W) => ready_any t x (.slice (some ⟨g1, 0, none⟩) es.length c1) (.slice none 0 0) gW 0 ed ⟨ad.z, ad.cz, ad.v, ad.cv⟩ W (by have := HK0.out.r1; omega) (HKR.out.below hb hgw2) (((HT1.out.cR.below HX.out).below (hb.mono HX.out.size)).mono (Nat.le_trans HX.out.size hb.size)) (((own_slZ hva).below hb).mono hb.size) (fun r hr => by
            obtain ⟨i, hi, rfl⟩ := List.getElem_of_mem hr
            have h0 := HK0.out.er i hi
            unfold errR at h0
            rw [show t.ready.getD i (0, 0, 0) = t.ready[i] by simp [hi]] at h0
            dsimp only at h0
            split at h0
            · cases h0
            · rename_i h1
              simp only [Bool.or_eq_true, not_or, Bool.not_eq_true, Bool.not_eq_false'] at h1
              have h2 := inB_iffZ.1 h1.1
              have h3 := hbd.vn
              omega)
          have HRD := Lib.hid hrd
          obtain ⟨rn, hrn⟩ : ∃ r, r = readyN t.ready ed.variants t.ready.length := ⟨_, rfl⟩
          have HRN := Lib.hid hrn
          have HED := Lib.hid hed
          have HGJ := Lib.hid hgj
          have HWX := Lib.hid (show ∀ W, Below wr.heap.size wr W → W.cell? ⟨gW, 8, none⟩ = some (.slice (some ⟨g1, 0, none⟩) es.length c1) from fun W hb => by rw [(HKR.out.below hb hgw2).cell]; simp [workC])
          obtain ⟨p0, _⟩ := a0
          obtain ⟨p1, _⟩ := a1
          obtain ⟨p2, f2⟩ := a2
          obtain ⟨p3, _⟩ := a3
          obtain ⟨p4, _⟩ := a4
          clear hgj hed hva hbd hrd hrn
          go_upto_region 24 with fail
          have q7 := HWX.out wr (Below.refl _ _)
          go_region_law
            ((go_simp; go_at_call 119; refine (HRD.out _ (by repeat (first | exact Below.refl _ _ | refine Below.drew ?_))).mono ?_; rintro e w6 ⟨rfl, hb6⟩; have HB6 := Lib.hid (((Below.refl wr.heap.size wr).drew).trans hb6); have q6 := HWX.out w6 HB6.out; have p6 := (HB6.out.cell (p := ⟨g1, j * 5 + 2, none⟩) hg12).trans p2; have f6 := (HB6.out.frozen (p := ⟨g1, j * 5 + 2, none⟩) hg12).trans f2; have HWS : ∀ u, (w6.setCell ⟨g1, j * 5 + 2, none⟩ u).cell? ⟨gW, 8, none⟩ = some (.slice (some ⟨g1, 0, none⟩) es.length c1) := (fun u => by rw [((HKR.out.below HB6.out hgw2).far (p := ⟨g1, j * 5 + 2, none⟩) (by exact hg1w.symm) u).cell]; simp [workC]); clear hb6; go_wp2_with fail))
          all_goals
            have hee := (HER.out.below HB6.out).putm (rdyL_len _ _ _).symm hjl (withR t es[j]) 2 (.int .i64 rn) (by omega) (by rw [HGJ.out, ← HED.out, HRN.out]; simp [encEd, withR]) (by rw [HGJ.out]; simp [withR])
            rw [← rdyL_succ hlj] at hee
            have hkk := (HKR.out.below HB6.out hgw2).far (p := ⟨g1, j * 5 + 2, none⟩) (by exact hg1w.symm) (.int .i64 rn)
            have hbb := (HX.out.trans (HB6.out.mono HX.out.size)).setCell (p := ⟨g1, j * 5 + 2, none⟩) (by exact hBg) (.int .i64 rn)
            have HEE := Lib.hid hee
            have HKK := Lib.hid hkk
            have HBB := Lib.hid hbb
            rw [← HRN.out]
            clear hee hkk hbb HWS p0 p1 p2 p3 p4 f2 p6 f6
            go_wp2_with fail
            go_roundw
            case rel => exact ⟨j + 1, by omega, by go_num, HEE.out, HKK.out, HBB.out⟩
            case measure => simp [intOf]; omega
        · obtain rfl : j = es.length := by omega
          obtain ⟨es2, hes2⟩ : ∃ es2, es2 = es.map (withR t) := ⟨_, rfl⟩
          have hl2 : es2.length = es.length := by rw [hes2]; simp
          have he2 := HER.out
          rw [rdyL_all, ← hes2] at he2
          have hm2 : es2.map (·.1) = edsR t := by rw [hes2]; exact withR_eds HE.out
          have hev : ∀ i (h : i < es2.length), es2[i].1.variants.length = t.colours.length := by
            intro i h
            have h' : i < es.length := by rw [← hl2]; exact h
            have : es2[i].1.variants = es[i].1.variants := by simp [hes2, withR]
            rw [this]; exact (HBD.out i h').vn
          obtain ⟨wb, hwb⟩ : ∃ W, W = wr := ⟨_, rfl⟩
          rw [← hwb] at he2 HKR HX y8 ⊢
          have HE2 := Lib.hid he2
          have HM2 := Lib.hid hm2
          have HEV := Lib.hid hev
          have HL2 := Lib.hid hl2
          clear hwb hes2 he2 hm2 hev hl2 HER HBD
          go_wp2_with fail
          clear y8
          go_loopw [137] (fun c wr => ∃ (i : Nat) (rows : List (Option Addr × Nat)) (vC : Value), i ≤ es.length ∧ c = .int .i64 i ∧ Hid (rows.length = i) ∧ Hid (EdsAt wr w1.heap.size (.slice (some ⟨g1, 0, none⟩) es.length c1) es2) ∧ Hid (Blk wr gW 161 (workC t x (.slice (some ⟨g1, 0, none⟩) es.length c1) vC 0)) ∧ Hid (wr.ownsRow wb.heap.size 47 1 vC i (rows.flatMap (encRow es.length))) ∧ Hid (∀ j (h : j < rows.length), wr.ownsRow wb.heap.size 3 1 (.slice rows[j].1 es.length rows[j].2) es.length ((chgLZ t (es2.map (·.1)) j).map (Value.int .i64))) ∧ Hid (Below w1.heap.size w1 wr) ∧ wb.heap.size ≤ wr.heap.size) (fun c _ => es.length - (intOf c).toNat)
          case atStart => exact ⟨0, [], _, Nat.zero_le _, rfl, rfl, HE2, HKR, World.ownsRow_nil _ _ _ _, fun j h => absurd h (by simp), HX.out, Nat.le_refl _⟩
          case round =>
            obtain ⟨i, rows, vC, hi, rfl, HRL, HEi, HKi, HVC, HRW, HXi, hsz⟩ := hrel
            have y8 := HKi.out.cell 8
            simp [workC] at y8
            have hgwi := HKi.out.lt
            have hg12 := (HEi.out.row.lt g1 rfl).2
            by_cases hli : i < es.length
            · have hi2 : i < es2.length := by rw [HL2.out]; exact hli
              obtain ⟨⟨ea, aa⟩, hea⟩ : ∃ e, e = es2[i] := ⟨_, rfl⟩
              have a0 := HEi.out.atm HL2.out.symm hi2 0 (by omega)
              have a1 := HEi.out.atm HL2.out.symm hi2 1 (by omega)
              have a2 := HEi.out.atm HL2.out.symm hi2 2 (by omega)
              have a3 := HEi.out.atm HL2.out.symm hi2 3 (by omega)
              have a4 := HEi.out.atm HL2.out.symm hi2 4 (by omega)
              have hva := HEi.out.var i hi2
              have hla := HEV.out i hi2
              rw [← hea] at a0 a1 a2 a3 a4 hva hla
              simp [encEd] at a0 a1 a2 a3 a4
              obtain ⟨p0, _⟩ := a0
              obtain ⟨p1, _⟩ := a1
              obtain ⟨p2, _⟩ := a2
              obtain ⟨p3, _⟩ := a3
              obtain ⟨p4, _⟩ := a4
              obtain ⟨wA, hwA⟩ : ∃ W, W = wr.alloc (.cells #[.slice aa.z ea.zones.length aa.cz, .int .i64 ea.copies, .int .i64 ea.ready, .int .i64 ea.due, .slice aa.v ea.variants.length aa.cv] 200) := ⟨_, rfl⟩
              obtain ⟨gA, hgA⟩ : ∃ g, g = wr.heap.size := ⟨_, rfl⟩
              have kA : Blk wA gA 200 #[.slice aa.z ea.zones.length aa.cz, .int .i64 ea.copies, .int .i64 ea.ready, .int .i64 ea.due, .slice aa.v ea.variants.length aa.cv] := by rw [hwA, hgA]; exact Blk.new _ _ _
              have hbA : Below wr.heap.size wr wA := by rw [hwA]; exact (Below.refl _ _).alloc (Nat.le_refl _) _
              have hsA : wr.heap.size < wA.heap.size := by rw [hwA]; simp
              have HEA2 := Lib.hid (HEi.out.below hbA)
              have HKA := Lib.hid (HKi.out.below hbA hgwi)
              have HXA := Lib.hid (HXi.out.trans (hbA.mono HXi.out.size))
              have KA := Lib.hid kA
              have HVA := Lib.hid (((own_slZ hva).below hbA).mono hbA.size)
              have HBA := Lib.hid hbA
              have hgAl := kA.lt
              have hgWA := HKA.out.lt
              have hg1A := (HEA2.out.row.lt g1 rfl).2
              have yA := HKA.out.cell 8
              simp [workC] at yA
              have HWA := Lib.hid hwA
              have HGA := Lib.hid hgA
              have HEA1 := Lib.hid hea
              have HLA := Lib.hid hla
              obtain ⟨cl, hcl⟩ : ∃ l, l = chgLZ t (es2.map (·.1)) i := ⟨_, rfl⟩
              have hcll : cl.length = es.length := by rw [hcl]; simp [chgLZ, HL2.out]
              have HCL := Lib.hid hcl
              have HCLL := Lib.hid hcll
              obtain ⟨i0, hin, hz0, hz1, hz2⟩ := info_parts infoInt
              have HI := Lib.hid hin
              have hmle : es.length + 1 ≤ maxLen := by simp only [maxLen]; omega
              clear hwA hgA kA hbA hva hea hla hcl hcll hin
              go_upto_region 29 with fail
              rw [← HWA.out, ← HGA.out]
              clear p0 p1 p2 p3 p4 y8
              go_wp2_with fail
              go_loopw [16, 146] (fun v c wr => ∃ (j : Nat), j ≤ es.length ∧ c = .int .i64 j ∧ Hid (wr.ownsRow wA.heap.size 3 1 v j ((cl.take j).map (Value.int .i64))) ∧ Below wA.heap.size wA wr) (fun _ c _ => es.length - (intOf c).toNat)
              case atStart => exact ⟨0, Nat.zero_le _, rfl, World.ownsRow_nil _ _ _ _, Below.refl _ _⟩
              case round =>
                obtain ⟨j, hj, rfl, HVR, hY⟩ := hrel
                have HY := Lib.hid hY
                clear hY
                have hsY := HY.out.size
                obtain ⟨AR, cR, hvr⟩ := own_shape HVR.out
                subst hvr
                by_cases hlj : j < es.length
                · have hj2 : j < es2.length := by rw [HL2.out]; exact hlj
                  obtain ⟨⟨eb, ab⟩, heb⟩ : ∃ e, e = es2[j] := ⟨_, rfl⟩
                  have HEY := Lib.hid (HEA2.out.below HY.out)
                  have a0 := HEY.out.atm HL2.out.symm hj2 0 (by omega)
                  have a1 := HEY.out.atm HL2.out.symm hj2 1 (by omega)
                  have a2 := HEY.out.atm HL2.out.symm hj2 2 (by omega)
                  have a3 := HEY.out.atm HL2.out.symm hj2 3 (by omega)
                  have a4 := HEY.out.atm HL2.out.symm hj2 4 (by omega)
                  have hvb := HEY.out.var j hj2
                  have hlb := HEV.out j hj2
                  rw [← heb] at a0 a1 a2 a3 a4 hvb hlb
                  simp [encEd] at a0 a1 a2 a3 a4
                  obtain ⟨p0, _⟩ := a0
                  obtain ⟨p1, _⟩ := a1
                  obtain ⟨p2, _⟩ := a2
                  obtain ⟨p3, _⟩ := a3
                  obtain ⟨p4, _⟩ := a4
                  obtain ⟨wB, hwB⟩ : ∃ W, W = wr.alloc (.cells #[.slice ab.z eb.zones.length ab.cz, .int .i64 eb.copies, .int .i64 eb.ready, .int .i64 eb.due, .slice ab.v eb.variants.length ab.cv] 200) := ⟨_, rfl⟩
                  obtain ⟨gB, hgB⟩ : ∃ g, g = wr.heap.size := ⟨_, rfl⟩
                  have kB : Blk wB gB 200 #[.slice ab.z eb.zones.length ab.cz, .int .i64 eb.copies, .int .i64 eb.ready, .int .i64 eb.due, .slice ab.v eb.variants.length ab.cv] := by rw [hwB, hgB]; exact Blk.new _ _ _
                  have hbB : Below wr.heap.size wr wB := by rw [hwB]; exact (Below.refl _ _).alloc (Nat.le_refl _) _
                  have hbAB := HY.out.trans (hbB.mono hsY)
                  have kAB := KA.out.below hbAB hgAl
                  have kWB := HKA.out.below hbAB hgWA
                  have hvB := ((own_slZ hvb).below hbB).mono hbB.size
                  have hvAB := (HVA.out.below hbAB).mono hbAB.size
                  have hxB := HXA.out.trans (hbAB.mono HXA.out.size)
                  have hrB := HVR.out.kept (w' := wB) (row := none) ⟨hbB.os, hbB.tape, hbB.output, hbB.size, fun q hq _ => hbB.block q hq⟩ (by by_cases h : (Value.slice AR j cR).ownBlock = none; (exact .inl h); (exact .inr h))
                  have hpl := plates108_any t HK0.out.ok x (.slice (some ⟨g1, 0, none⟩) es.length c1) vC gW 0 gA gB (fun p => decide (ea.variants.getD p (-1) ≠ eb.variants.getD p (-1))) wB (HS.out.s2) kWB ((HT1.out.cA.below hxB).mono hxB.size) ((HT1.out.cB.below hxB).mono hxB.size) (fun p W hp hb => differs_any p gA gB ea.variants eb.variants aa.v ab.v aa.cv ab.cv W (by rw [HLA.out]; exact hp) (by rw [hlb]; exact hp) ((kAB.below hb kAB.lt).cell 4) ((kB.below hb kB.lt).cell 4) ((hvAB.below hb).mono hb.size) ((hvB.below hb).mono hb.size))
                  obtain ⟨ch, hch⟩ : ∃ c, c = changeB t ea eb := ⟨_, rfl⟩
                  have hpl2 : Calls Try.prog 120 #[.pointer (some ⟨gW, 0, none⟩), .func (.func 121) #[] #[.pointer (some ⟨gA, 0, none⟩), .pointer (some ⟨gB, 0, none⟩)]] wB fun e w' => e = .returned (.int .i64 ch) ∧ Below wB.heap.size wB w' := by rw [hch]; exact hpl
                  have hclj : ∃ h : j < cl.length, cl[j] = ch := by
                    refine ⟨by rw [HCLL.out]; exact hlj, ?_⟩
                    simp only [HCL.out, chgLZ, List.getElem_map, hch, ← heb]
                    have hi3 : i < es2.length := by rw [HL2.out]; exact hli
                    congr 1
                    simp [hi3, ← HEA1.out]
                  have HPL := Lib.hid hpl2
                  have HCLJ := Lib.hid hclj
                  have HRB := Lib.hid hrB
                  have HAB := Lib.hid hbAB
                  have HWB := Lib.hid hwB
                  have HGB := Lib.hid hgB
                  have hsB : wA.heap.size ≤ wB.heap.size := hbAB.size
                  have hy8 := (HY.out.cell (p := ⟨gW, 8, none⟩) hgWA).trans yA
                  clear heb hvb hlb hwB hgB kB hbB hbAB kAB kWB hvB hvAB hxB hrB hpl hpl2 hclj hch
                  go_upto_region 33 with fail
                  rw [← HWB.out, ← HGB.out]
                  clear p0 p1 p2 p3 p4 hy8
                  go_wp2_with first
                    | (go_at_call 120; refine HPL.out.mono ?_; rintro e w6 ⟨rfl, hb6⟩; have hr6 := own_belowV HRB.out hb6; have HR6 := Lib.hid hr6; have HB6 := Lib.hid (HAB.out.trans (hb6.mono hsB)); have hs6 := HB6.out.size; clear hb6 hr6)
                    | (at_builtin; refine wpList_append_lies _ rfl (.tmp 150) (.tmp 154) 47 rfl wA.heap.size 3 i0 _ 1 8 Try.underlying47 HI.out hz0 hz1 hz2 rfl (by decide) (.slice AR j cR) j ((cl.take j).map (Value.int .i64)) rfl (HR6.out.alloc _) ⟨w6.heap.size, 0, none⟩ 1 1 [.int .i64 ch] rfl rfl (news_of1 w6 3 #[.int .i64 ch]) (by intro u hu; simp at hu; subst hu; rfl) (by decide) (by omega) (by omega) (by simp; omega) (w6.heap.size + 1) (by simp) ?_; intro g7 cap7 w7 hown7 hgrow7 hat7 hlt7; have HO7 := Lib.hid hown7; have HX7 := Lib.hid ((HB6.out.alloc hs6 (.cells #[.int .i64 ch] 3)).grown hgrow7 (by simp; omega) (fun q hq => (HR6.out.lt q hq).1)); clear hown7 hgrow7 hat7)
                  go_roundw
                  case rel =>
                    refine ⟨j + 1, by omega, by go_num, ?_, HX7.out⟩
                    obtain ⟨h1, h2⟩ := HCLJ.out
                    have := HO7.out
                    rw [List.take_succ_eq_append_getElem h1, List.map_append, h2]
                    exact this
                  case measure => simp [intOf]; omega
                · obtain rfl : j = es.length := by omega
                  obtain ⟨gr, cr, hvr, hgr1, hgr2⟩ := HVR.out.form (by omega)
                  injection hvr with hAR _ hcR
                  subst hAR hcR
                  have hct : cl.take es.length = cl := List.take_of_length_le (by rw [HCLL.out]; exact Nat.le_refl _)
                  have HVR2 := HVR.out
                  rw [hct] at HVR2
                  have HVF := Lib.hid HVR2
                  have hkY := HKA.out.below HY.out hgWA
                  have hbY : Below wr.heap.size wr wr := Below.refl _ _
                  have HKY := Lib.hid hkY
                  have HEY := Lib.hid (HEA2.out.below HY.out)
                  have hbri : Below wA.heap.size wA wr := HY.out
                  have hvcA := own_belowV HVC.out (HBA.out)
                  have hvcY := own_belowV hvcA HY.out
                  have hrwY := Lib.hid (fun q (h : q < rows.length) => own_belowV (own_belowV (HRW.out q h) HBA.out) HY.out)
                  obtain ⟨AC, cC, hvc⟩ := own_shape hvcY
                  subst hvc
                  have HVY := Lib.hid hvcY
                  have y9 := HKY.out.cell 9
                  simp [workC] at y9
                  have HXY := Lib.hid (HXA.out.trans (HY.out.mono HXA.out.size))
                  obtain ⟨r0, hr, hq0, hq1, hq2⟩ := info_parts infoRow
                  have HR0 := Lib.hid hr
                  have hwbY : wb.heap.size ≤ wr.heap.size := by omega
                  have hml2 : i + 1 ≤ maxLen := by simp only [maxLen]; omega
                  have HAL := Lib.hid (show ∀ w8, (wr.alloc (.cells #[.slice (some ⟨gr, 0, none⟩) es.length cR] 47)).grownBy w8 (Value.slice AC i cC).ownBlock → Blk w8 gW 161 (workC t x (.slice (some ⟨g1, 0, none⟩) es.length c1) (.slice AC i cC) 0) ∧ EdsAt w8 w1.heap.size (.slice (some ⟨g1, 0, none⟩) es.length c1) es2 ∧ (∀ q (h : q < rows.length), w8.ownsRow wb.heap.size 3 1 (.slice rows[q].1 es.length rows[q].2) es.length ((chgLZ t (es2.map (·.1)) q).map (Value.int .i64))) ∧ w8.ownsRow wb.heap.size 3 1 (.slice (some ⟨gr, 0, none⟩) es.length cR) es.length (cl.map (Value.int .i64)) ∧ Below w1.heap.size w1 w8 from fun w8 hg => by
                    have hr := HVY.out.alloc (.cells #[.slice (some ⟨gr, 0, none⟩) es.length cR] 47)
                    have hk := HKY.out.alloc (.cells #[.slice (some ⟨gr, 0, none⟩) es.length cR] 47)
                    have hv2 := HVF.out.alloc (.cells #[.slice (some ⟨gr, 0, none⟩) es.length cR] 47)
                    refine ⟨hk.grown hg (own_blk_ne hr hk (by decide)), ?_, fun q h => (hrwY.out q h).alloc _ |>.kept hg (own_own_ne ((hrwY.out q h).alloc _) hr (by decide)), World.ownsRow.mono (hv2.kept hg (own_own_ne hv2 hr (by decide))) (by omega), (HXY.out.alloc HXY.out.size _).grown hg (by have := HXY.out.size; simp; omega) (fun j hj => Nat.le_trans HX.out.size (hr.lt j hj).1)⟩
                    cases hob : (Value.slice AC i cC).ownBlock with
                    | none => rw [hob] at hg; exact (HEY.out.alloc _).frame fun g cs e _ hh => hg.block g (lt_of_heapZ hh) (by simp)
                    | some ob =>
                      rw [hob] at hg
                      refine (HEY.out.alloc _).grown hg fun cs e he hh => ?_
                      rcases hr.2 with ⟨h0, _⟩ | ⟨g2, cap, cur, hv, _, hc, _⟩
                      · rw [h0] at hob; cases hob
                      · rw [hv] at hob
                        have e1 : g2 = ob := by simpa [Value.ownBlock] using hob
                        subst e1
                        rw [hc] at hh
                        injection hh with hh
                        injection hh with _ ht
                        rcases he with rfl | rfl <;> cases ht)
                  clear hct HVR2 hkY hbY hbri hvcA hvcY hr yA
                  go_wp2_with (at_builtin; refine wpList_append_lies _ rfl (.tmp 161) (.tmp 163) 124 rfl wb.heap.size 47 r0 _ 1 24 Try.underlying124 HR0.out hq0 hq1 hq2 rfl (by decide) (.slice AC i cC) i (rows.flatMap (encRow es.length)) rfl (HVY.out.alloc _) ⟨wr.heap.size, 0, none⟩ 1 1 [.slice (some ⟨gr, 0, none⟩) es.length cR] rfl rfl (news_of1 wr 47 #[.slice (some ⟨gr, 0, none⟩) es.length cR]) (by intro u hu; simp at hu; subst hu; rfl) (by decide) hml2 (by omega) (by simp; omega) (wr.heap.size + 1) (by simp) ?_; intro g7 cap7 w7 hown7 hgrow7 hat7 hlt7; have HO7 := Lib.hid hown7; have h7 := HAL.out w7 hgrow7; have y7 := h7.1.cell 9; simp [workC] at y7; have f7 := h7.1.frozen 9; have hs7 : wb.heap.size ≤ w7.heap.size := (by have := hgrow7.size; simp at this; omega); have H7 := Lib.hid h7; clear hown7 hgrow7 hat7 h7)
                  have hnb : ∀ (g : Nat) e', w7.heap[g]? = some e' → (∀ cs, e' ≠ .cells cs 161 (0, 0)) → g ≠ gW := fun g e' h h2 q => by
                    subst q
                    have h3 : w7.heap[g]? = some _ := H7.out.1
                    rw [h] at h3; injection h3 with h3; exact h2 _ h3
                  go_roundw
                  case rel =>
                    refine ⟨i + 1, rows ++ [(some ⟨gr, 0, none⟩, cR)], .slice (some ⟨g7, 0, none⟩) (i + 1) cap7, by omega, by go_num, ?_, H7.out.2.1.set_ H7.out.1 (by decide) (by decide) 9 _, ?_, ?_, ?_, H7.out.2.2.2.2.setCell (by exact HGW.out) _, by simpa using hs7⟩
                    · exact Lib.hid (by simp [HRL.out])
                    · have := H7.out.1.set_ 9 (.slice (some ⟨g7, 0, none⟩) (i + 1) cap7)
                      exact Lib.hid (by simpa [workC] using this)
                    · have := own_far HO7.out (p := ⟨gW, 9, none⟩) (by intro e; exact own_blk_ne HO7.out H7.out.1 (by decide) e) (.slice (some ⟨g7, 0, none⟩) (i + 1) cap7)
                      exact Lib.hid (by simpa [encRow] using this)
                    · refine Lib.hid fun q hq => ?_
                      have key : ∀ {v : Value} {n : Nat} {xs : List Value}, w7.ownsRow wb.heap.size 3 1 v n xs → (w7.setCell ⟨gW, 9, none⟩ (.slice (some ⟨g7, 0, none⟩) (i + 1) cap7)).ownsRow wb.heap.size 3 1 v n xs := fun h => own_far h (by exact own_blk_ne h H7.out.1 (by decide)) _
                      by_cases hq2 : q < rows.length
                      · rw [List.getElem_append_left hq2]
                        exact key (H7.out.2.2.1 q hq2)
                      · have : q = rows.length := by simp at hq; omega
                        subst this
                        have hcl2 : chgLZ t (es2.map (·.1)) rows.length = cl := by rw [HRL.out, HCL.out]
                        rw [hcl2]
                        simpa using key H7.out.2.2.2.1
                  case measure => simp [intOf]; omega
            · obtain rfl : i = es.length := by omega
              obtain ⟨gc, cc, hvc, hgc1, hgc2⟩ := HVC.out.form (by omega)
              subst hvc
              have hpl := plates109_any t HK0.out.ok x (.slice (some ⟨g1, 0, none⟩) es.length c1) (.slice (some ⟨gc, 0, none⟩) es.length cc) gW 0 (fun _ => true) wr HS.out.s2 HKi.out ((HT1.out.cA.below HXi.out).mono HXi.out.size) ((HT1.out.cB.below HXi.out).mono HXi.out.size) (fun p W _ _ => (always_any p W).mono (by rintro e w' ⟨rfl, rfl⟩; exact ⟨rfl, Below.refl _ _⟩))
              have HPL := Lib.hid (show Calls Try.prog 120 #[.pointer (some ⟨gW, 0, none⟩), .func (.func 122) #[] #[]] wr fun e w' => e = .returned (.int .i64 (allB t)) ∧ Below wr.heap.size wr w' from hpl)
              obtain ⟨al, hal⟩ : ∃ a, a = allB t := ⟨_, rfl⟩
              rw [← hal] at HPL
              have HAL := Lib.hid hal
              clear hpl y8 hal
              go_wp2_with (go_at_call 120; refine HPL.out.mono ?_; rintro e w6 ⟨rfl, hb6⟩; have k6 := HKi.out.below hb6 hgwi; have y6 := k6.cell 10; have f6 := k6.frozen 10; simp [workC] at y6; have HB6 := Lib.hid hb6; have K6 := Lib.hid k6; clear hb6 k6)
              go_ret2
              have hwf : ∀ {b e s n : Nat} {v : Value} {xs : List Value}, e ≠ 161 → wr.ownsRow b e s v n xs → (w6.setCell ⟨gW, 10, none⟩ (.int .i64 al)).ownsRow b e s v n xs := fun hne h => own_far (own_belowV h HB6.out) (by exact own_blk_ne (own_belowV h HB6.out) K6.out hne) _
              refine ⟨⟨es2, rows, some ⟨g1, 0, none⟩, c1, some ⟨gc, 0, none⟩, cc, gW⟩, rfl, ⟨HM2.out, ?_, ?_, Nat.le_trans HB1.out.size HGW.out, by rw [HRL.out, HL2.out], ?_, fun q hq => ?_⟩, ?_⟩
              · have := ((HEi.out.below HB6.out).set_ K6.out (by decide) (by decide) 10 (.int .i64 al)).base HB1.out.size
                simpa only [HL2.out] using this
              · have := K6.out.set_ 10 (.int .i64 al)
                rw [workV_eq]
                dsimp only
                rw [← HAL.out, HL2.out]
                simpa [workC] using this
              · have h1 := hwf (by decide) HVC.out
                have h2 : (w6.setCell ⟨gW, 10, none⟩ (.int .i64 al)).ownsRow wb.heap.size 47 1 (.slice (some ⟨gc, 0, none⟩) rows.length cc) rows.length (rows.flatMap (encRow es2.length)) := by rw [HRL.out, HL2.out]; exact h1
                exact World.ownsRow.mono h2 (Nat.le_trans HB1.out.size HX.out.size)
              · have h1 := hwf (by decide) (HRW.out q hq)
                have hlen : (chgLZ t (es2.map (·.1)) q).length = es.length := by simp [chgLZ, HL2.out]
                rw [hlen]
                exact World.ownsRow.mono h1 (Nat.le_trans HB1.out.size HX.out.size)
              · exact HB1.out.trans (((HXi.out.trans (HB6.out.mono HXi.out.size)).setCell (by exact HGW.out) _).mono HB1.out.size)
end Go.Proofs.Ytnbnfadmbggfnaa
