/- Contract of table: the least ends of all sets; conditions: a title at work. -/
import Derived.Test.YtokdleanpkkdpaaSpecD
import Derived.Test.YtokdleanpkkdpaaA9
import Derived.Laws.Bits64b
import Derived.WalkKit
import Derived.WalkLawsBesides
import Derived.Laws.CopyOwn
import Derived.Laws.OwnMore
import Derived.Deep.OwnRows
import Derived.Deep.RegionLaw
import Derived.Deep.DeepCutAuto
import Derived.Deep.AppendLies
import Derived.Deep.RegionHeld3
import Derived.Test.YtokdleanpkkdpaaR4
import Derived.Test.YtokdleanpkkdpaaY0
set_option linter.unusedSimpArgs false
set_option linter.unusedVariables false
namespace Go.Ed
/-- the table while sets push: those below a set have pushed, the set itself from each last one below a given one, and from that one to the editions below c -/
def tabS (t : TitD) (es : List EdD) (set last c : Nat) (S e : Nat) : Int :=
  if bitB S e = false then -1 else if S = 2 ^ e then putV es (-1) (firstS t es e)
  else if S - 2 ^ e < set then leaG t es (leaT t es (S - 2 ^ e)) e es.length
  else if S - 2 ^ e = set then leaG t es (leaT t es set) e (if e < c then last + 1 else last) else -1
/-- the table while the first slots are put -/
def tabF (t : TitD) (es : List EdD) (c : Nat) (S e : Nat) : Int := if S = 2 ^ e ∧ e < c then putV es (-1) (firstS t es e) else -1
/-- one number of a table is set anew -/
def updF (f : Nat → Nat → Int) (S e : Nat) (v : Int) (S' e' : Nat) : Int := if S' = S ∧ e' = e then v else f S' e'
/-- two tables agree where they are -/
def TabEq (n : Nat) (f g : Nat → Nat → Int) : Prop := ∀ S e, S < 2 ^ n → e < n → f S e = g S e
theorem tabS_read (t : TitD) (es : List EdD) {set last : Nat} (h : 1 ≤ set) (c l' : Nat) : tabS t es set l' c set last = leaT t es set last := by
  rw [leaT_eq]
  unfold tabS
  by_cases hb : bitB set last = false
  · rw [if_pos hb, if_pos hb]
  · rw [if_neg hb, if_neg hb]
    have h2 := bit_le (show bitB set last = true by simpa using hb)
    have h3 : 0 < 2 ^ last := Nat.two_pow_pos last
    by_cases hp : set = 2 ^ last
    · rw [if_pos hp, if_pos hp]
    · rw [if_neg hp, if_neg hp, if_pos (by omega)]
theorem tabS_all (t : TitD) (es : List EdD) : TabEq es.length (tabS t es (2 ^ es.length) 0 0) (leaT t es) := by
  intro S e hS he
  rw [leaT_eq]
  unfold tabS
  by_cases hb : bitB S e = false
  · rw [if_pos hb, if_pos hb]
  · rw [if_neg hb, if_neg hb]
    by_cases hp : S = 2 ^ e
    · rw [if_pos hp, if_pos hp]
    · rw [if_neg hp, if_neg hp, if_pos (Nat.lt_of_le_of_lt (Nat.sub_le _ _) hS)]
theorem leaG_zero (t : TitD) (es : List EdD) (g : Nat → Int) (e : Nat) : leaG t es g e 0 = -1 := rfl
theorem tabF_zero (t : TitD) (es : List EdD) : TabEq es.length (fun _ _ => -1) (tabF t es 0) := by
  intro S e _ _; unfold tabF; rw [if_neg (by omega)]
theorem tabF_next (t : TitD) (es : List EdD) {c : Nat} (hc : c < es.length) : TabEq es.length (updF (tabF t es c) (2 ^ c) c (putV es (tabF t es c (2 ^ c) c) (firstS t es c))) (tabF t es (c + 1)) := by
  intro S e _ _
  unfold updF
  by_cases h : S = 2 ^ c ∧ e = c
  · obtain ⟨rfl, rfl⟩ := h
    rw [if_pos ⟨rfl, rfl⟩]
    unfold tabF
    rw [if_neg (by omega), if_pos ⟨rfl, by omega⟩]
  · rw [if_neg h]
    unfold tabF
    by_cases h2 : S = 2 ^ e ∧ e < c
    · rw [if_pos h2, if_pos ⟨h2.1, by omega⟩]
    · rw [if_neg h2, if_neg]
      rintro ⟨h3, h4⟩
      have : e = c := by
        by_cases q : e < c
        · exact absurd ⟨h3, q⟩ h2
        · omega
      subst this
      exact h ⟨h3, rfl⟩
theorem tabF_all (t : TitD) (es : List EdD) (hn : es.length ≤ 7) : TabEq es.length (tabF t es es.length) (tabS t es 1 0 0) := by
  intro S e hS he
  unfold tabF tabS
  have h3 : 0 < 2 ^ e := Nat.two_pow_pos e
  by_cases hp : S = 2 ^ e
  · rw [if_pos ⟨hp, he⟩, if_neg (by rw [hp, bit_pow e (by omega) e (by omega)]; simp), if_pos hp]
  · rw [if_neg (fun h => hp h.1)]
    by_cases hb : bitB S e = false
    · rw [if_pos hb]
    · have h2 := bit_le (show bitB S e = true by simpa using hb)
      rw [if_neg hb, if_neg hp, if_neg (by omega)]
      split
      · rfl
      · rfl
/-- no push to an edition that is in the set -/
theorem tabS_in (t : TitD) (es : List EdD) (hn : es.length ≤ 7) {set last c : Nat} (hs : set < 2 ^ es.length) (hc : c < es.length) (hb : bitB set c = true) : TabEq es.length (tabS t es set last c) (tabS t es set last (c + 1)) := by
  intro S e hS he
  unfold tabS
  by_cases hbe : bitB S e = false
  · rw [if_pos hbe, if_pos hbe]
  · rw [if_neg hbe, if_neg hbe]
    by_cases hp : S = 2 ^ e
    · rw [if_pos hp, if_pos hp]
    · rw [if_neg hp, if_neg hp]
      by_cases hlt : S - 2 ^ e < set
      · rw [if_pos hlt, if_pos hlt]
      · rw [if_neg hlt, if_neg hlt]
        by_cases heq : S - 2 ^ e = set
        · rw [if_pos heq, if_pos heq]
          have h128 := pow_le7 es.length (by omega)
          have hsub := bit_sub S (by omega) e (by omega) (by simpa using hbe)
          by_cases hec : e = c
          · subst hec
            rw [heq, hb] at hsub
            exact absurd hsub.2.1 (by simp)
          · by_cases q : e < c
            · rw [if_pos q, if_pos (by omega)]
            · rw [if_neg q, if_neg (by omega)]
        · rw [if_neg heq, if_neg heq]
/-- a push -/
theorem tabS_push (t : TitD) (es : List EdD) (hn : es.length ≤ 7) {set last c : Nat} (h1 : 1 ≤ set) (hs : set < 2 ^ es.length) (hc : c < es.length) (hb : bitB set c = false) (hx : 0 ≤ leaT t es set last) :
    TabEq es.length (updF (tabS t es set last c) (set + 2 ^ c) c (putV es (tabS t es set last c (set + 2 ^ c) c) (nextS t es c last (leaT t es set last)))) (tabS t es set last (c + 1)) := by
  have h128 := pow_le7 es.length (by omega)
  have hbf := bit_facts set (by omega) c (by omega) hb
  have hp0 : 0 < 2 ^ c := Nat.two_pow_pos c
  intro S e hS he
  unfold updF
  by_cases h : S = set + 2 ^ c ∧ e = c
  · obtain ⟨rfl, rfl⟩ := h
    rw [if_pos ⟨rfl, rfl⟩]
    unfold tabS
    rw [if_neg (by rw [hbf.1]; simp), if_neg (by omega), if_neg (by omega), if_pos (by omega), if_neg (by omega), if_neg (by rw [hbf.1]; simp), if_neg (by omega), if_neg (by omega), if_pos (by omega), if_pos (by omega), leaG_succ, if_neg (by omega)]
  · rw [if_neg h]
    unfold tabS
    by_cases hbe : bitB S e = false
    · rw [if_pos hbe, if_pos hbe]
    · rw [if_neg hbe, if_neg hbe]
      have h2 := bit_le (show bitB S e = true by simpa using hbe)
      by_cases hp : S = 2 ^ e
      · rw [if_pos hp, if_pos hp]
      · rw [if_neg hp, if_neg hp]
        by_cases hlt : S - 2 ^ e < set
        · rw [if_pos hlt, if_pos hlt]
        · rw [if_neg hlt, if_neg hlt]
          by_cases heq : S - 2 ^ e = set
          · rw [if_pos heq, if_pos heq]
            by_cases hec : e = c
            · subst hec; exact absurd ⟨by omega, rfl⟩ h
            · by_cases q : e < c
              · rw [if_pos q, if_pos (by omega)]
              · rw [if_neg q, if_neg (by omega)]
          · rw [if_neg heq, if_neg heq]
/-- a last one that has no end pushes nothing -/
theorem tabS_none (t : TitD) (es : List EdD) {set last : Nat} (hx : leaT t es set last < 0) : TabEq es.length (tabS t es set last 0) (tabS t es set (last + 1) 0) := by
  intro S e hS he
  unfold tabS
  simp only [Nat.not_lt_zero, if_false]
  rw [leaG_succ, if_pos hx]
theorem tabS_last (t : TitD) (es : List EdD) {set last : Nat} : TabEq es.length (tabS t es set last es.length) (tabS t es set (last + 1) 0) := by
  intro S e hS he
  unfold tabS
  simp only [Nat.not_lt_zero, if_false, if_pos he]
theorem tabS_set (t : TitD) (es : List EdD) {set : Nat} : TabEq es.length (tabS t es set es.length 0) (tabS t es (set + 1) 0 0) := by
  intro S e hS he
  unfold tabS
  simp only [Nat.not_lt_zero, if_false, leaG_zero]
  by_cases hbe : bitB S e = false
  · rw [if_pos hbe, if_pos hbe]
  · rw [if_neg hbe, if_neg hbe]
    by_cases hp : S = 2 ^ e
    · rw [if_pos hp, if_pos hp]
    · rw [if_neg hp, if_neg hp]
      by_cases hlt : S - 2 ^ e < set
      · rw [if_pos hlt, if_pos (by omega)]
      · rw [if_neg hlt]
        by_cases heq : S - 2 ^ e = set
        · rw [if_pos heq, if_pos (by omega), heq]
        · rw [if_neg heq, if_neg (by omega)]
          split <;> rfl
/-- the numbers of a table, one after the other -/
def tabL (n : Nat) (f : Nat → Nat → Int) : List Int := (List.range (n * 2 ^ n)).map fun i => f (i / n) (i % n)
theorem tabL_len (n : Nat) (f : Nat → Nat → Int) : (tabL n f).length = n * 2 ^ n := by simp [tabL]
theorem at_lt {n S e : Nat} (hS : S < 2 ^ n) (he : e < n) : S * n + e < n * 2 ^ n := by
  have h1 : (S + 1) * n ≤ 2 ^ n * n := Nat.mul_le_mul_right n hS
  rw [Nat.add_mul, Nat.one_mul] at h1
  rw [Nat.mul_comm n]
  omega
theorem at_div {n S e : Nat} (he : e < n) : (S * n + e) / n = S ∧ (S * n + e) % n = e := by
  constructor
  · rw [Nat.mul_comm, Nat.mul_add_div (by omega), Nat.div_eq_of_lt he]; omega
  · rw [Nat.mul_comm, Nat.mul_add_mod, Nat.mod_eq_of_lt he]
theorem at_split {n i : Nat} (hi : i < n * 2 ^ n) : i / n < 2 ^ n ∧ i % n < n := by
  have hn : 0 < n := by
    rcases Nat.eq_zero_or_pos n with h | h
    · subst h; simp at hi
    · exact h
  exact ⟨Nat.div_lt_of_lt_mul hi, Nat.mod_lt _ hn⟩
theorem tabL_get {n S e : Nat} (f : Nat → Nat → Int) (hS : S < 2 ^ n) (he : e < n) : (tabL n f)[S * n + e]'(by rw [tabL_len]; exact at_lt hS he) = f S e := by
  unfold tabL
  simp only [List.getElem_map, List.getElem_range]
  rw [(at_div he).1, (at_div he).2]
theorem tabL_congr {n : Nat} {f g : Nat → Nat → Int} (h : TabEq n f g) : tabL n f = tabL n g := by
  unfold tabL
  apply List.map_congr_left
  intro i hi
  have := at_split (List.mem_range.1 hi)
  exact h _ _ this.1 this.2
theorem tabL_at {n i : Nat} (f : Nat → Nat → Int) (h : i < (tabL n f).length) : (tabL n f)[i] = f (i / n) (i % n) := by simp [tabL]
theorem tabL_set {n S e : Nat} (f : Nat → Nat → Int) (hS : S < 2 ^ n) (he : e < n) (v : Int) : (tabL n f).set (S * n + e) v = tabL n (updF f S e v) := by
  refine List.ext_getElem (by simp [tabL]) fun i h1 h2 => ?_
  rw [List.getElem_set, tabL_at _ h2]
  unfold updF
  by_cases q : S * n + e = i
  · subst q
    rw [if_pos rfl, (at_div he).1, (at_div he).2, if_pos ⟨rfl, rfl⟩]
  · rw [if_neg q, tabL_at, if_neg]
    rintro ⟨h3, h4⟩
    apply q
    rw [← h3, ← h4]
    have := Nat.div_add_mod i n
    rw [Nat.mul_comm]; exact this
theorem tabL_const (n : Nat) : tabL n (fun _ _ => -1) = List.replicate (n * 2 ^ n) (-1) := by
  unfold tabL
  refine List.ext_getElem (by simp) fun i h1 h2 => by simp
end Go.Ed
namespace Go.Fh
/-- an operation is taken first; where it writes is laid open -/
theorem wpAnyH_takeD {P : Program} {ops : Array Oper} {Q : Exit → Act → World → Prop} {md : Region.Mode} {S : World → Prop} {i : Nat} {oi : Oper} {v : Value} {fuel : Nat} {listed : Array Bool} {a : Act} {w : World} (d : Option Tmp) (hi : ops[i]? = some oi) (hd : oi.dst = d)
    (hs : Region.noSelect ops = true) (hf : Region.free md ops listed i = true) (hr : (Region.ready md ops listed).contains i = true)
    (hQ : ∀ c a w, Q (.panic c) (a.put oi.dst v) w → Q (.panic c) a w) (hy : YieldsIf P ops S oi v a) (hS : S w)
    (h : wpAnyH P md ops Q S fuel (listed.setIfInBounds i true) (a.put d v) w) : wpAnyH P md ops Q S (fuel + 1) listed a w := by
  subst hd
  exact wpAnyH_take hi hs hf hr hQ hy hS h
end Go.Fh
namespace Go.Proofs.Ytokdleanpkkdpaa
open Go.RowKit Go.Fh
open Go.Lib hiding intOf
theorem maskN (a : Nat) (ha : a < 4294967296) : bits .and .u64 (a : Int) 4294967295 = (a : Int) := by
  have h := bits_and_u64_nat a 4294967295 (by omega) (by omega)
  have e : a &&& 4294967295 = a % 4294967296 := Nat.and_two_pow_sub_one_eq_mod a 32
  rw [e, Nat.mod_eq_of_lt ha] at h
  exact h
theorem mul131_any (y : Nat) (hy : y ≤ 1000000) (w : World) : Calls Try.prog 131 #[.int .u64 1, .int .u64 y] w fun e w' => e = .returned (.tuple #[.int .u64 0, .int .u64 (y : Int)]) ∧ w = w' := by
  have h1 := maskN 1 (by omega)
  have h2 := maskN y (by omega)
  have HH1 : bits .and .u64 1 4294967295 = 1 := h1
  have h3 : (y : Int) / 4294967296 = 0 := by omega
  have h4 : IntKind.u64.wrap (y : Int) = (y : Int) := by rw [IntKind.wrap_u64]; omega
  go_enter Try.func131, Try.ntmps131
  go_wp2
  go_ret2
  exact ⟨by have h0 := maskN 0 (by omega); have HH0 : bits .and .u64 0 4294967295 = 0 := h0; simp [HH1, h2, h3, h4, HH0, IntKind.wrap_u64], rfl⟩
theorem mul128_any (y : Nat) (hy : y ≤ 1000000) (w : World) : Calls Try.prog 128 #[.int .u64 1, .int .u64 y] w fun e w' => e = .returned (.tuple #[.int .u64 0, .int .u64 (y : Int)]) ∧ w = w' := by
  go_enter Try.func128, Try.ntmps128
  go_wp2_with (go_at_call 131; refine (mul131_any y hy _).mono ?_; rintro e w' ⟨rfl, rfl⟩)
  go_ret2
  exact ⟨rfl, rfl⟩
theorem repl_splice (k m : Nat) (a b : Value) (j : Nat) (hj : j ≤ m) : splice (List.replicate k a ++ List.replicate m b) k (List.replicate j a) = List.replicate (k + j) a ++ List.replicate (m - j) b := by
  unfold splice
  rw [List.take_left' (by simp), List.length_replicate, List.drop_append, List.drop_eq_nil_of_le (by simp), List.nil_append, List.length_replicate, show k + j - k = j by omega, List.drop_replicate, ← List.append_assoc, List.replicate_append_replicate]
theorem repl_get (k m : Nat) (a b : Value) {j : Nat} {v : Value} (h : (List.replicate j a)[0]? = (List.replicate j a)[0]?) (i : Nat) (hj : j ≤ k) (hv : (List.replicate j a)[i]? = some v) : (List.replicate k a ++ List.replicate m b)[i]? = some v := by
  have hi : i < j := by
    rcases Nat.lt_or_ge i j with h | h
    · exact h
    · rw [List.getElem?_eq_none (by simpa using h)] at hv; cases hv
  rw [List.getElem?_append_left (by simp; omega), List.getElem?_eq_getElem (by simp; omega)]
  rw [List.getElem?_eq_getElem (by simpa using hi)] at hv
  simpa using hv
theorem infoIntT : (Try.prog.info? 3).map (fun i => (i.zero, i.size, i.bytes)) = some (some (.int .i64 0), 1, 8) := by kernel_rfl
theorem infoIntS : (Try.prog.info? 3).map (·.size) = some 1 := by kernel_rfl
set_option maxRecDepth 20000 in
set_option maxHeartbeats 2000000 in
theorem repeat_any (A : Option Addr) (c : Nat) (u : Int) (N : Nat) (w : World) (hN0 : 1 ≤ N) (hN : N ≤ 1000000) (hA : Sl encInt 1 w w.heap.size A [u]) :
    Calls Try.prog 120 #[.slice A 1 c, .int .i64 N] w fun e w' => ∃ g, e = .returned (.slice (some ⟨g, 0, none⟩) N N) ∧ w.heap.size ≤ g ∧ Blk w' g 3 (List.replicate N (Value.int .i64 u)).toArray ∧ Below w.heap.size w w' := by
  obtain ⟨b, off, rfl, hb, d0⟩ := hA.at1 (k := 0) (by simp)
  simp at d0
  have hmk := run_make_row' (P := Try.prog) 22 3 (.int .i64 0) 8 Try.underlying22 infoIntT rfl .i64 .i64 N (by omega) (by omega) w
  obtain ⟨w1, hw1⟩ : ∃ W, W = w.alloc (.cells (madeCells #[.int .i64 0] N) 3) := ⟨_, rfl⟩
  rw [← hw1] at hmk
  obtain ⟨g, hg⟩ : ∃ g, g = w.heap.size := ⟨_, rfl⟩
  have k1 : Blk w1 g 3 (List.replicate N (Value.int .i64 0)).toArray := by
    rw [hw1, hg, ← toList_madeCells_one]
    exact Blk.new w 3 _
  have hb1 : Below w.heap.size w w1 := by rw [hw1]; exact (Below.refl _ _).alloc (Nat.le_refl _) _
  rw [← hg] at hmk
  have hgs : w.heap.size ≤ g := by omega
  have d1 := (hb1.cell (p := ⟨b, off, none⟩) hb).trans d0
  have n1 : decide ((N : Int) < 0) = false := by simp
  have n2 : IntKind.u64.wrap (N : Int) = (N : Int) := by rw [IntKind.wrap_u64]; omega
  have n3 : IntKind.i64.wrap (N : Int) = (N : Int) := by rw [IntKind.wrap_i64]; omega
  have K1 := Lib.hid (show w1.heap[g]? = some (.cells (List.replicate N (Value.int .i64 0)).toArray 3 (0, 0)) from k1)
  have HB1 := Lib.hid hb1
  have N2 := Lib.hid n2
  have N3 := Lib.hid n3
  have D1 := Lib.hid d1
  clear k1 hb1 hg hw1 d0 hA n2 n3 d1
  go_enter Try.func120, Try.ntmps120
  go_upto_region 6 with (go_at_call 128; refine (mul128_any N hN _).mono ?_; rintro e w' ⟨rfl, rfl⟩)
  have hlen1 : (List.replicate N (Value.int .i64 0)).length = N := by simp
  have HM1 := Lib.hid (show ([Value.int .i64 u] : List Value).length = Nat.min 1 N by show 1 = min 1 N; omega)
  have HM2 := Lib.hid (show 0 < ([Value.int .i64 u] : List Value).length → (some ⟨g, 0, none⟩ : Option Addr) = some ⟨g, 0, none⟩ ∧ ∃ ad, (some ⟨b, off, none⟩ : Option Addr) = some ad ∧ ∀ j v, [Value.int .i64 u][j]? = some v → w1.cell? (ad.add j) = some v from fun _ => ⟨rfl, _, rfl, fun j v hj => by
    match j, hj with
    | 0, hj => simp at hj; subst hj; simpa [Addr.add] using D1.out
    | j + 1, hj => simp at hj⟩)
  have HM3 := Lib.hid (show 0 + ([Value.int .i64 u] : List Value).length ≤ (List.replicate N (Value.int .i64 0)).length by simp; omega)
  have HM4 := Lib.hid (show ∀ v ∈ [Value.int .i64 u], v.oneCell' = true from by intro v hv; simp at hv; subst hv; rfl)
  have HSP := Lib.hid (show splice (List.replicate N (Value.int .i64 0)) 0 [Value.int .i64 u] = List.replicate 1 (Value.int .i64 u) ++ List.replicate (N - 1) (Value.int .i64 0) from by
    have := repl_splice 0 N (Value.int .i64 u) (Value.int .i64 0) 1 (by omega)
    simpa using this)
  go_upto_region 7 with fail
  clear hlen1
  go_wp2_with (with_reducible refine wpList_copy_splice rfl (.tmp 31) (.tmp 32) 22 22 rfl 3 Try.underlying22 infoIntS (some ⟨g, 0, none⟩) (some ⟨b, off, none⟩) N N 1 c rfl rfl g 0 (List.replicate N (.int .i64 0)) 3 K1.out [.int .i64 u] HM1.out HM2.out HM3.out HM4.out w.heap.size w HB1.out hgs ?_; intro w2 hg2 hb2; have HB2 := Lib.hid hb2; clear hb2)
  have h2 := hg2.out
  rw [HSP.out] at h2
  have H2 := Lib.hid h2
  clear h2 hg2
  go_loopw [8] (fun n wr => ∃ k : Nat, 1 ≤ k ∧ k ≤ N ∧ n = .int .i64 k ∧ Hid (wr.heap[g]? = some (.cells (List.replicate k (Value.int .i64 u) ++ List.replicate (N - k) (Value.int .i64 0)).toArray 3 (0, 0))) ∧ Hid (Below w.heap.size w wr)) (fun n _ => N - (intOf n).toNat)
  case atStart => exact ⟨1, Nat.le_refl _, hN0, rfl, H2, HB2⟩
  case round =>
    obtain ⟨k, hk1, hk2, rfl, HC, HB⟩ := hrel
    by_cases hlt : k < N
    · obtain ⟨j, hj⟩ : ∃ j, j = min k (N - k) := ⟨_, rfl⟩
      have HJ := Lib.hid (show (List.replicate j (Value.int .i64 u)).length = Nat.min k (N - k) by rw [List.length_replicate]; exact hj)
      have hj1 : 1 ≤ j ∧ j ≤ k ∧ k + j ≤ N := by omega
      have HFIT := Lib.hid (show k + (List.replicate j (Value.int .i64 u)).length ≤ (List.replicate k (Value.int .i64 u) ++ List.replicate (N - k) (Value.int .i64 0)).length by simp; omega)
      have HONE := Lib.hid (show ∀ v ∈ List.replicate j (Value.int .i64 u), v.oneCell' = true from fun v hv => by rw [(List.mem_replicate.1 hv).2]; rfl)
      have HSRC := Lib.hid (show ∀ W : World, W.heap[g]? = some (.cells (List.replicate k (Value.int .i64 u) ++ List.replicate (N - k) (Value.int .i64 0)).toArray 3 (0, 0)) → ∀ i v, (List.replicate j (Value.int .i64 u))[i]? = some v → W.cell? ((⟨g, 0, none⟩ : Addr).add i) = some v from fun W hW i v hv =>
        World.news_of_block (cs := (List.replicate k (Value.int .i64 u) ++ List.replicate (N - k) (Value.int .i64 0)).toArray) hW i v (by
          have := repl_get k (N - k) (Value.int .i64 u) (Value.int .i64 0) (j := j) rfl i (by omega) hv
          simpa using this))
      have HSP2 := Lib.hid (repl_splice k (N - k) (Value.int .i64 u) (Value.int .i64 0) j (by omega))
      have HCD := Lib.hid (show wr.drew.heap[g]? = some (.cells (List.replicate k (Value.int .i64 u) ++ List.replicate (N - k) (Value.int .i64 0)).toArray 3 (0, 0)) from HC.out)
      have HBD := Lib.hid (show Below w.heap.size w wr.drew from HB.out.drew)
      have i0 : (0 : Int) ≤ (k : Int) := by omega
      have i1 : (k : Int) ≤ (N : Int) := by omega
      obtain ⟨hj2, hj3, hj4⟩ := hj1
      have hne : ¬ (N = k) := by omega
      clear hj
      go_upto_region 9 with fail
      go_region_law ((refine step_copy_splice rfl (.tmp 41) (.tmp 44) 22 22 rfl 3 Try.underlying22 infoIntS (some ⟨g, k, none⟩) (some ⟨g, 0, none⟩) (N - k) (N - k) k N (by simp [go_sem]) (by simp [go_sem]) g k (List.replicate k (Value.int .i64 u) ++ List.replicate (N - k) (Value.int .i64 0)) 3 HCD.out (List.replicate j (Value.int .i64 u)) HJ.out (fun _ => ⟨rfl, _, rfl, HSRC.out _ HCD.out⟩) HFIT.out HONE.out w.heap.size w HBD.out hgs ?_; intro w4 hg4 hb4))
      all_goals
        have h4 := hg4.out
        rw [HSP2.out, show N - k - j = N - (k + j) by omega] at h4
        have H4 := Lib.hid h4
        have HB4 := Lib.hid hb4
        clear h4 hg4 hb4
        simp only [List.getElem_toArray, List.getElem_cons_succ, List.getElem_cons_zero]
        simp only [Act.put, List.setIfInBounds_toArray, List.set_cons_succ, List.set_cons_zero]
        rw [show IntKind.i64.wrap ((k : Int) + (j : Int)) = ((k + j : Nat) : Int) from by rw [IntKind.wrap_i64]; omega]
        go_roundw
        case rel => exact ⟨_, _, _, _, _, _, _, _, _, _, _, _, _, _, ⟨k + j, by omega, by omega, rfl, H4, HB4⟩, rfl⟩
        case measure => simp [intOf]; omega
    · obtain rfl : k = N := by omega
      go_wp2_with fail
      go_ret
      have h4 := HC.out
      rw [Nat.sub_self, List.replicate_zero, List.append_nil] at h4
      exact ⟨g, rfl, hgs, h4, HB.out⟩
end Go.Proofs.Ytokdleanpkkdpaa
namespace Go.Proofs.Ytokdleanpkkdpaa
open Go.RowKit Go.Fh Go.Ed
def tabW (n : Nat) (f : Nat → Nat → Int) : List Value := (tabL n f).map (Value.int .i64)
theorem tabW_len (n : Nat) (f : Nat → Nat → Int) : (tabW n f).length = n * 2 ^ n := by simp [tabW, tabL_len]
theorem tabW_get {n S e : Nat} (f : Nat → Nat → Int) (hS : S < 2 ^ n) (he : e < n) : (tabW n f)[S * n + e]? = some (.int .i64 (f S e)) := by
  unfold tabW
  rw [List.getElem?_map, List.getElem?_eq_getElem (by rw [tabL_len]; exact at_lt hS he), tabL_get f hS he]; rfl
theorem tabW_set {n S e : Nat} (f : Nat → Nat → Int) (hS : S < 2 ^ n) (he : e < n) (v : Int) : (tabW n f).set (S * n + e) (.int .i64 v) = tabW n (updF f S e v) := by
  unfold tabW
  rw [← tabL_set f hS he v, List.map_set]
theorem tabW_congr {n : Nat} {f g : Nat → Nat → Int} (h : TabEq n f g) : tabW n f = tabW n g := by unfold tabW; rw [tabL_congr h]
theorem updF_same (f : Nat → Nat → Int) (S e : Nat) : updF f S e (f S e) = f := by
  funext S' e'
  unfold updF
  split
  · rename_i h; rw [h.1, h.2]
  · rfl
theorem pow_le128 {n : Nat} (h : n ≤ 7) : 2 ^ n ≤ 128 := pow_le7 n (by omega)
set_option maxRecDepth 100000 in
set_option maxHeartbeats 4000000 in
theorem put_any (t : TitD) (x : TA) (k : Wk) (B : Nat) (W0 : World) (hc : ChkOk t) (hW : WorkAt W0 B t x k) (n m : Nat) (hn : n = k.es.length) (hmE : m = n * 2 ^ n) (gN gP gO gA c : Nat) (f : Nat → Nat → Int) (S e : Nat) (s : SloD) (W : World) (hb : Below W0.heap.size W0 W)
    (kN : Blk W gN 3 #[.int .i64 n]) (kP : Blk W gP 124 #[.pointer (some ⟨k.g, 0, none⟩)]) (kO : Blk W gO 22 #[.slice (some ⟨gA, 0, none⟩) m c]) (hgA : W0.heap.size ≤ gA)
    (ho : W.ownsRow W0.heap.size 3 1 (.slice (some ⟨gA, 0, none⟩) m c) m (tabW n f)) (hS : S < 2 ^ n) (he : e < n) (hse : s.edition = (e : Int)) :
    Calls Try.prog 121 #[.int .i64 S, .agg #[.int .i64 e, .int .i64 s.plates, .int .i64 s.beg, .int .i64 s.fin], .pointer (some ⟨gN, 0, none⟩), .pointer (some ⟨gP, 0, none⟩), .pointer (some ⟨gO, 0, none⟩)] W fun r W' => (∃ v, r = .returned v) ∧
      W'.ownsRow W0.heap.size 3 1 (.slice (some ⟨gA, 0, none⟩) m c) m (tabW n (updF f S e (putV (edsR t) (f S e) s))) ∧ Same gA gA none W W' := by
  have hn7 : n ≤ 7 := by rw [hn, hW.len, edsR_len]; exact hc.n1
  have hp := pow_le128 hn7
  have hm : m ≤ 1000 := by rw [hmE]; exact Nat.le_trans (Nat.mul_le_mul hn7 hp) (by omega)
  have halt := at_lt hS he
  rw [← hmE] at halt
  obtain ⟨a, ha⟩ : ∃ a, a = S * n + e := ⟨_, rfl⟩
  have haI : (S : Int) * (n : Int) + (e : Int) = (a : Int) := by rw [ha]; push_cast; rfl
  have hSn : S * n ≤ 1000 := by omega
  have hsn0 : (0 : Int) ≤ (S : Int) * (n : Int) := by rw [← Int.natCast_mul]; omega
  have hsn1 : (S : Int) * (n : Int) ≤ 1000 := by rw [← Int.natCast_mul]; omega
  obtain ⟨w1, hw1⟩ : ∃ w, w = W.alloc (.cells #[.int .i64 e, .int .i64 s.plates, .int .i64 s.beg, .int .i64 s.fin] 63) := ⟨_, rfl⟩
  obtain ⟨gX, hgX⟩ : ∃ g, g = W.heap.size := ⟨_, rfl⟩
  have hb1 : Below W.heap.size W w1 := by rw [hw1]; exact (Below.refl _ _).alloc (Nat.le_refl _) _
  have kX : Blk w1 gX 63 #[.int .i64 e, .int .i64 s.plates, .int .i64 s.beg, .int .i64 s.fin] := by rw [hw1, hgX]; exact Blk.new W 63 _
  obtain ⟨old, hold⟩ : ∃ v, v = f S e := ⟨_, rfl⟩
  have hget : (tabW n f)[a]? = some (.int .i64 old) := by rw [ha, hold]; exact tabW_get f hS he
  have hgl := (ho.lt gA rfl).2
  have hA : ∀ W', Below W.heap.size W W' → W'.cell? ⟨gA, a, none⟩ = some (.int .i64 old) ∧ W'.frozen? ⟨gA, a, none⟩ = false := fun W' hb' => by
    have h1 := ho.cellAt a (by omega)
    have h2 := ho.frozenAt a
    exact ⟨(hb'.cell (p := ⟨gA, a, none⟩) hgl).trans (h1.trans hget), (hb'.frozen (p := ⟨gA, a, none⟩) hgl).trans h2⟩
  have FW := Lib.hid (show ∀ W', Below w1.heap.size w1 W' → W'.cell? ⟨gP, 0, none⟩ = some (.pointer (some ⟨k.g, 0, none⟩)) ∧ W'.cell? ⟨gO, 0, none⟩ = some (.slice (some ⟨gA, 0, none⟩) m c) ∧ W'.cell? ⟨gA, a, none⟩ = some (.int .i64 old) ∧ W'.frozen? ⟨gA, a, none⟩ = false ∧
      W'.cell? ⟨gX, 0, none⟩ = some (.int .i64 e) ∧ W'.cell? ⟨gX, 1, none⟩ = some (.int .i64 s.plates) ∧ W'.cell? ⟨gX, 2, none⟩ = some (.int .i64 s.beg) ∧ W'.cell? ⟨gX, 3, none⟩ = some (.int .i64 s.fin) from fun W' hb' => by
    have hbW := hb1.trans (hb'.mono hb1.size)
    have kx := kX.below hb' kX.lt
    exact ⟨by rw [(kP.below hbW kP.lt).cell]; rfl, by rw [(kO.below hbW kO.lt).cell]; rfl, (hA W' hbW).1, (hA W' hbW).2, by rw [kx.cell]; rfl, by rw [kx.cell]; rfl, by rw [kx.cell]; rfl, by rw [kx.cell]; rfl⟩)
  have LT := Lib.hid (show ∀ W', Below w1.heap.size w1 W' → Calls Try.prog 80 #[.pointer (some ⟨k.g, 0, none⟩), .agg #[.int .i64 e, .int .i64 s.plates, .int .i64 s.beg, .int .i64 s.fin]] W' fun r w' => r = .returned (.bool (lateB (edsR t) s)) ∧ Below W'.heap.size W' w' from fun W' hb' => by
    have hk := hW.below (hb.trans ((hb1.trans (hb'.mono hb1.size)).mono hb.size))
    have := late_any t x k.es k.E k.C k.cE k.cC k.g (allB t) e s.plates s.beg s.fin W' (by omega) (by omega) hk.hk hk.hE
    rw [show decide (k.es[e].1.due < s.fin) = lateB (edsR t) s by
      unfold lateB
      rw [hse, Int.toNat_natCast, ← hk.eds]
      simp [show e < k.es.length by omega]] at this
    exact this)
  have FIN0 := Lib.hid (show ∀ W', Below w1.heap.size w1 W' → W'.ownsRow W0.heap.size 3 1 (.slice (some ⟨gA, 0, none⟩) m c) m (tabW n f) ∧ Same gA gA none W W' from fun W' hb' => by
    have hbW := hb1.trans (hb'.mono hb1.size)
    exact ⟨own_belowV ho hbW, Same.of_below hbW⟩)
  have FIN1 := Lib.hid (show ∀ W', Below w1.heap.size w1 W' → (W'.setCell ⟨gA, a, none⟩ (.int .i64 s.fin)).ownsRow W0.heap.size 3 1 (.slice (some ⟨gA, 0, none⟩) m c) m (tabW n (updF f S e s.fin)) ∧ Same gA gA none W (W'.setCell ⟨gA, a, none⟩ (.int .i64 s.fin)) from fun W' hb' => by
    have hbW := hb1.trans (hb'.mono hb1.size)
    have o1 := own_put (own_belowV ho hbW) a (.int .i64 s.fin)
    rw [ha, tabW_set f hS he, ← ha] at o1
    exact ⟨o1, same_gr (Same.of_below hbW) (gr_set W' gA a _) (fun j e => .inr (.inl (by injection e with e; exact e.symm)))⟩)
  have hup : updF f S e (f S e) = f := updF_same f S e
  rw [← hold] at hup ⊢
  obtain ⟨pv, hpv⟩ : ∃ v, v = putV (edsR t) old s := ⟨_, rfl⟩
  rw [← hpv]
  have HUP := Lib.hid hup
  have HPV := Lib.hid hpv
  have n0 := kN.cell 0
  have e0 := kX.cell 0
  simp at n0 e0
  have n1 : w1.cell? ⟨gN, 0, none⟩ = some (.int .i64 n) := (hb1.cell (p := ⟨gN, 0, none⟩) kN.lt).trans n0
  have HW1 := Lib.hid (And.intro hw1 hgX)
  have HB1 := Lib.hid (Below.refl w1.heap.size w1)
  have kXl := kX.lt
  have hA1 := Nat.lt_of_lt_of_le hgl hb1.size
  have a0 : (0 : Int) ≤ (a : Int) := by omega
  have a1 : (a : Int) < (m : Int) := by omega
  have HAI := Lib.hid haI
  clear hw1 hgX hb1 kX ho hget hA hup n0 hW hb kN kP kO hold hmE ha haI hm hn hp halt hse hSn hpv
  go_enter Try.func121, Try.ntmps121
  go_upto_region 1 with fail
  rw [← HW1.out.1, ← HW1.out.2]
  go_upto_region 2 with fail
  rw [HAI.out]
  clear n1 e0
  obtain ⟨q0, q1, q2, -, q4, q5, q6, q7⟩ := FW.out w1 HB1.out
  clear q0 q1 q2 q4 q5 q6 q7
  cases hl : lateB (edsR t) s
  · by_cases h1 : old < 0
    · have t1 : decide (old < 0) = true := by simpa using h1
      have hv : pv = s.fin := by rw [HPV.out]; unfold putV; rw [hl, t1]; rfl
      have HV := Lib.hid hv
      have HL := Lib.hid hl
      clear hl h1 hv
      refine wp_region_noPanic ?_
      refine wp_region_held_drew (S := (fun W' => W'.cell? ⟨gP, 0, none⟩ = some (.pointer (some ⟨k.g, 0, none⟩)) ∧ W'.cell? ⟨gO, 0, none⟩ = some (.slice (some ⟨gA, 0, none⟩) m c) ∧ W'.cell? ⟨gA, a, none⟩ = some (.int .i64 old) ∧ W'.cell? ⟨gX, 0, none⟩ = some (.int .i64 e) ∧ W'.cell? ⟨gX, 1, none⟩ = some (.int .i64 s.plates) ∧ W'.cell? ⟨gX, 2, none⟩ = some (.int .i64 s.beg) ∧ W'.cell? ⟨gX, 3, none⟩ = some (.int .i64 s.fin))) (by kernel_rfl) ?_ (fun hHeld => ?_)
      · (try dsimp only); ((have hs := FW.out w1 HB1.out); exact ⟨hs.1, hs.2.1, hs.2.2.1, hs.2.2.2.2.1, hs.2.2.2.2.2.1, hs.2.2.2.2.2.2.1, hs.2.2.2.2.2.2.2⟩)
      refine wpAnyH_takeD (i := 0) (v := ?_) (some 14) rfl rfl (by kernel_rfl) (by kernel_rfl) (by kernel_rfl) (fun _ _ _ h => h) (Or.inl ⟨by rfl, ?_⟩) (by assumption) ?_
      rotate_left
      · intro w hSw; (try dsimp only at hSw); go_simp; (try with_reducible rfl)
      try simp only [Act.put, List.setIfInBounds_toArray, List.set_cons_zero, List.set_cons_succ]
      refine wpAnyH_takeD (i := 1) (v := ?_) (some 15) rfl rfl (by kernel_rfl) (by kernel_rfl) (by kernel_rfl) (fun _ _ _ h => h) (Or.inl ⟨by rfl, ?_⟩) (by assumption) ?_
      rotate_left
      · intro w hSw; (try dsimp only at hSw); go_simp; (try with_reducible rfl)
      try simp only [Act.put, List.setIfInBounds_toArray, List.set_cons_zero, List.set_cons_succ]
      refine wpAnyH_ready (rs := [2]) (by kernel_rfl) (by simp) ?_
      refine AllReadyH.cons rfl (fun K hK => ?_) AllReadyH.nil
      (go_simp; go_at_call 80; refine (LT.out _ (by repeat (first | exact HB1.out | refine Below.drew ?_))).mono ?_; rintro r w4 ⟨rfl, hb4⟩; rw [HL.out]; have HB4 := Lib.hid (show Below w1.heap.size w1 w4 from (HB1.out.drew).trans hb4); clear hb4; go_wp2_with fail)
      refine hK.out _ _ ?_ (fun hHeld => ?_)
      · (try dsimp only); ((have hs := FW.out w4 HB4.out); exact ⟨hs.1, hs.2.1, hs.2.2.1, hs.2.2.2.2.1, hs.2.2.2.2.2.1, hs.2.2.2.2.2.2.1, hs.2.2.2.2.2.2.2⟩)
      clear hK K
      try simp only [List.getElem_toArray, List.getElem_cons_succ, List.getElem_cons_zero]
      try simp only [Act.put, List.setIfInBounds_toArray, List.set_cons_zero, List.set_cons_succ]
      refine wpAnyH_takeD (i := 3) (v := ?_) (some 17) rfl rfl (by kernel_rfl) (by kernel_rfl) (by kernel_rfl) (fun _ _ _ h => h) (Or.inl ⟨by rfl, ?_⟩) (by assumption) ?_
      rotate_left
      · intro w hSw; (try dsimp only at hSw); go_simp; (try with_reducible rfl)
      try simp only [Act.put, List.setIfInBounds_toArray, List.set_cons_zero, List.set_cons_succ]
      refine wpAnyH_takeD (i := 4) (v := ?_) (some 18) rfl rfl (by kernel_rfl) (by kernel_rfl) (by kernel_rfl) (fun _ _ _ h => h) (Or.inl ⟨by rfl, ?_⟩) (by assumption) ?_
      rotate_left
      · intro w hSw; (try dsimp only at hSw); go_simp; (try with_reducible rfl)
      try simp only [Act.put, List.setIfInBounds_toArray, List.set_cons_zero, List.set_cons_succ]
      refine wpAnyH_takeD (i := 5) (v := ?_) (some 19) rfl rfl (by kernel_rfl) (by kernel_rfl) (by kernel_rfl) (fun _ _ _ h => h) (Or.inl ⟨by rfl, ?_⟩) (by assumption) ?_
      rotate_left
      · intro w hSw; (try dsimp only at hSw); go_simp; (try with_reducible rfl)
      try simp only [Act.put, List.setIfInBounds_toArray, List.set_cons_zero, List.set_cons_succ]
      refine wpAnyH_takeD (i := 6) (v := ?_) (some 20) rfl rfl (by kernel_rfl) (by kernel_rfl) (by kernel_rfl) (fun _ _ _ h => h) (Or.inl ⟨by rfl, ?_⟩) (by assumption) ?_
      rotate_left
      · intro w hSw; (try dsimp only at hSw); go_simp; (try with_reducible rfl)
      try simp only [Act.put, List.setIfInBounds_toArray, List.set_cons_zero, List.set_cons_succ]
      refine wpAnyH_takeD (i := 7) (v := ?_) (some 21) rfl rfl (by kernel_rfl) (by kernel_rfl) (by kernel_rfl) (fun _ _ _ h => h) (Or.inl ⟨by rfl, ?_⟩) (by assumption) ?_
      rotate_left
      · intro w hSw; (try dsimp only at hSw); go_simp; (try with_reducible rfl)
      try simp only [Act.put, List.setIfInBounds_toArray, List.set_cons_zero, List.set_cons_succ]
      refine wpAnyH_takeD (i := 8) (v := ?_) (some 22) rfl rfl (by kernel_rfl) (by kernel_rfl) (by kernel_rfl) (fun _ _ _ h => h) (Or.inl ⟨by rfl, ?_⟩) (by assumption) ?_
      rotate_left
      · intro w hSw; (try dsimp only at hSw); go_simp; (try with_reducible rfl)
      try simp only [Act.put, List.setIfInBounds_toArray, List.set_cons_zero, List.set_cons_succ]
      refine wpAnyH_takeD (i := 9) (v := ?_) (some 23) rfl rfl (by kernel_rfl) (by kernel_rfl) (by kernel_rfl) (fun _ _ _ h => h) (Or.inl ⟨by rfl, ?_⟩) (by assumption) ?_
      rotate_left
      · intro w hSw; (try dsimp only at hSw); go_simp; (try with_reducible rfl)
      try simp only [Act.put, List.setIfInBounds_toArray, List.set_cons_zero, List.set_cons_succ]
      refine wpAnyH_takeD (i := 10) (v := ?_) (some 24) rfl rfl (by kernel_rfl) (by kernel_rfl) (by kernel_rfl) (fun _ _ _ h => h) (Or.inl ⟨by rfl, ?_⟩) (by assumption) ?_
      rotate_left
      · intro w hSw; (try dsimp only at hSw); go_simp; (try with_reducible rfl)
      try simp only [Act.put, List.setIfInBounds_toArray, List.set_cons_zero, List.set_cons_succ]
      refine wpAnyH_takeD (i := 11) (v := undef) (some 25) rfl rfl (by kernel_rfl) (by kernel_rfl) (by kernel_rfl) (fun _ _ _ h => h) (Or.inr ⟨by kernel_rfl, rfl⟩) (by assumption) ?_
      try simp only [Act.put, List.setIfInBounds_toArray, List.set_cons_zero, List.set_cons_succ]
      refine wpAnyH_takeD (i := 12) (v := undef) (some 26) rfl rfl (by kernel_rfl) (by kernel_rfl) (by kernel_rfl) (fun _ _ _ h => h) (Or.inr ⟨by kernel_rfl, rfl⟩) (by assumption) ?_
      try simp only [Act.put, List.setIfInBounds_toArray, List.set_cons_zero, List.set_cons_succ]
      refine wpAnyH_takeD (i := 13) (v := undef) (some 27) rfl rfl (by kernel_rfl) (by kernel_rfl) (by kernel_rfl) (fun _ _ _ h => h) (Or.inr ⟨by kernel_rfl, rfl⟩) (by assumption) ?_
      try simp only [Act.put, List.setIfInBounds_toArray, List.set_cons_zero, List.set_cons_succ]
      refine wpAnyH_takeD (i := 14) (v := undef) (some 28) rfl rfl (by kernel_rfl) (by kernel_rfl) (by kernel_rfl) (fun _ _ _ h => h) (Or.inr ⟨by kernel_rfl, rfl⟩) (by assumption) ?_
      try simp only [Act.put, List.setIfInBounds_toArray, List.set_cons_zero, List.set_cons_succ]
      refine wpAnyH_takeD (i := 15) (v := undef) (some 29) rfl rfl (by kernel_rfl) (by kernel_rfl) (by kernel_rfl) (fun _ _ _ h => h) (Or.inr ⟨by kernel_rfl, rfl⟩) (by assumption) ?_
      try simp only [Act.put, List.setIfInBounds_toArray, List.set_cons_zero, List.set_cons_succ]
      refine wpAnyH_takeD (i := 16) (v := undef) (some 30) rfl rfl (by kernel_rfl) (by kernel_rfl) (by kernel_rfl) (fun _ _ _ h => h) (Or.inr ⟨by kernel_rfl, rfl⟩) (by assumption) ?_
      try simp only [Act.put, List.setIfInBounds_toArray, List.set_cons_zero, List.set_cons_succ]
      refine wpAnyH_takeD (i := 17) (v := undef) (some 31) rfl rfl (by kernel_rfl) (by kernel_rfl) (by kernel_rfl) (fun _ _ _ h => h) (Or.inr ⟨by kernel_rfl, rfl⟩) (by assumption) ?_
      try simp only [Act.put, List.setIfInBounds_toArray, List.set_cons_zero, List.set_cons_succ]
      refine wpAnyH_takeD (i := 18) (v := ?_) (some 32) rfl rfl (by kernel_rfl) (by kernel_rfl) (by kernel_rfl) (fun _ _ _ h => h) (Or.inl ⟨by rfl, ?_⟩) (by assumption) ?_
      rotate_left
      · intro w hSw; (try dsimp only at hSw); go_simp; (try with_reducible rfl)
      try simp only [Act.put, List.setIfInBounds_toArray, List.set_cons_zero, List.set_cons_succ]
      refine wpAnyH_takeD (i := 19) (v := ?_) (some 33) rfl rfl (by kernel_rfl) (by kernel_rfl) (by kernel_rfl) (fun _ _ _ h => h) (Or.inl ⟨by rfl, ?_⟩) (by assumption) ?_
      rotate_left
      · intro w hSw; (try dsimp only at hSw); go_simp; (try with_reducible rfl)
      try simp only [Act.put, List.setIfInBounds_toArray, List.set_cons_zero, List.set_cons_succ]
      refine wpAnyH_done (by kernel_rfl) ?_ _
      refine NoPanic.normal ?_
      obtain ⟨-, q1, q2, q3, -, -, -, q7⟩ := FW.out w4 HB4.out
      have l4 := Nat.lt_of_lt_of_le hA1 HB4.out.size
      go_wp2_with fail
      go_end0
      rw [HV.out]
      exact ⟨⟨_, rfl⟩, FIN1.out w4 HB4.out⟩
    · have t1 : decide (old < 0) = false := by simpa using h1
      by_cases h2 : s.fin < old
      · have t2 : decide (s.fin < old) = true := by simpa using h2
        have hv : pv = s.fin := by rw [HPV.out]; unfold putV; rw [hl, t1, t2]; rfl
        have HV := Lib.hid hv
        have HL := Lib.hid hl
        clear hl h1 hv h2
        refine wp_region_noPanic ?_
        refine wp_region_held_drew (S := (fun W' => W'.cell? ⟨gP, 0, none⟩ = some (.pointer (some ⟨k.g, 0, none⟩)) ∧ W'.cell? ⟨gO, 0, none⟩ = some (.slice (some ⟨gA, 0, none⟩) m c) ∧ W'.cell? ⟨gA, a, none⟩ = some (.int .i64 old) ∧ W'.cell? ⟨gX, 0, none⟩ = some (.int .i64 e) ∧ W'.cell? ⟨gX, 1, none⟩ = some (.int .i64 s.plates) ∧ W'.cell? ⟨gX, 2, none⟩ = some (.int .i64 s.beg) ∧ W'.cell? ⟨gX, 3, none⟩ = some (.int .i64 s.fin))) (by kernel_rfl) ?_ (fun hHeld => ?_)
        · (try dsimp only); ((have hs := FW.out w1 HB1.out); exact ⟨hs.1, hs.2.1, hs.2.2.1, hs.2.2.2.2.1, hs.2.2.2.2.2.1, hs.2.2.2.2.2.2.1, hs.2.2.2.2.2.2.2⟩)
        refine wpAnyH_takeD (i := 0) (v := ?_) (some 14) rfl rfl (by kernel_rfl) (by kernel_rfl) (by kernel_rfl) (fun _ _ _ h => h) (Or.inl ⟨by rfl, ?_⟩) (by assumption) ?_
        rotate_left
        · intro w hSw; (try dsimp only at hSw); go_simp; (try with_reducible rfl)
        try simp only [Act.put, List.setIfInBounds_toArray, List.set_cons_zero, List.set_cons_succ]
        refine wpAnyH_takeD (i := 1) (v := ?_) (some 15) rfl rfl (by kernel_rfl) (by kernel_rfl) (by kernel_rfl) (fun _ _ _ h => h) (Or.inl ⟨by rfl, ?_⟩) (by assumption) ?_
        rotate_left
        · intro w hSw; (try dsimp only at hSw); go_simp; (try with_reducible rfl)
        try simp only [Act.put, List.setIfInBounds_toArray, List.set_cons_zero, List.set_cons_succ]
        refine wpAnyH_ready (rs := [2]) (by kernel_rfl) (by simp) ?_
        refine AllReadyH.cons rfl (fun K hK => ?_) AllReadyH.nil
        (go_simp; go_at_call 80; refine (LT.out _ (by repeat (first | exact HB1.out | refine Below.drew ?_))).mono ?_; rintro r w4 ⟨rfl, hb4⟩; rw [HL.out]; have HB4 := Lib.hid (show Below w1.heap.size w1 w4 from (HB1.out.drew).trans hb4); clear hb4; go_wp2_with fail)
        refine hK.out _ _ ?_ (fun hHeld => ?_)
        · (try dsimp only); ((have hs := FW.out w4 HB4.out); exact ⟨hs.1, hs.2.1, hs.2.2.1, hs.2.2.2.2.1, hs.2.2.2.2.2.1, hs.2.2.2.2.2.2.1, hs.2.2.2.2.2.2.2⟩)
        clear hK K
        try simp only [List.getElem_toArray, List.getElem_cons_succ, List.getElem_cons_zero]
        try simp only [Act.put, List.setIfInBounds_toArray, List.set_cons_zero, List.set_cons_succ]
        refine wpAnyH_takeD (i := 3) (v := ?_) (some 17) rfl rfl (by kernel_rfl) (by kernel_rfl) (by kernel_rfl) (fun _ _ _ h => h) (Or.inl ⟨by rfl, ?_⟩) (by assumption) ?_
        rotate_left
        · intro w hSw; (try dsimp only at hSw); go_simp; (try with_reducible rfl)
        try simp only [Act.put, List.setIfInBounds_toArray, List.set_cons_zero, List.set_cons_succ]
        refine wpAnyH_takeD (i := 4) (v := ?_) (some 18) rfl rfl (by kernel_rfl) (by kernel_rfl) (by kernel_rfl) (fun _ _ _ h => h) (Or.inl ⟨by rfl, ?_⟩) (by assumption) ?_
        rotate_left
        · intro w hSw; (try dsimp only at hSw); go_simp; (try with_reducible rfl)
        try simp only [Act.put, List.setIfInBounds_toArray, List.set_cons_zero, List.set_cons_succ]
        refine wpAnyH_takeD (i := 5) (v := ?_) (some 19) rfl rfl (by kernel_rfl) (by kernel_rfl) (by kernel_rfl) (fun _ _ _ h => h) (Or.inl ⟨by rfl, ?_⟩) (by assumption) ?_
        rotate_left
        · intro w hSw; (try dsimp only at hSw); go_simp; (try with_reducible rfl)
        try simp only [Act.put, List.setIfInBounds_toArray, List.set_cons_zero, List.set_cons_succ]
        refine wpAnyH_takeD (i := 6) (v := ?_) (some 20) rfl rfl (by kernel_rfl) (by kernel_rfl) (by kernel_rfl) (fun _ _ _ h => h) (Or.inl ⟨by rfl, ?_⟩) (by assumption) ?_
        rotate_left
        · intro w hSw; (try dsimp only at hSw); go_simp; (try with_reducible rfl)
        try simp only [Act.put, List.setIfInBounds_toArray, List.set_cons_zero, List.set_cons_succ]
        refine wpAnyH_takeD (i := 7) (v := ?_) (some 21) rfl rfl (by kernel_rfl) (by kernel_rfl) (by kernel_rfl) (fun _ _ _ h => h) (Or.inl ⟨by rfl, ?_⟩) (by assumption) ?_
        rotate_left
        · intro w hSw; (try dsimp only at hSw); go_simp; (try with_reducible rfl)
        try simp only [Act.put, List.setIfInBounds_toArray, List.set_cons_zero, List.set_cons_succ]
        refine wpAnyH_takeD (i := 8) (v := ?_) (some 22) rfl rfl (by kernel_rfl) (by kernel_rfl) (by kernel_rfl) (fun _ _ _ h => h) (Or.inl ⟨by rfl, ?_⟩) (by assumption) ?_
        rotate_left
        · intro w hSw; (try dsimp only at hSw); go_simp; (try with_reducible rfl)
        try simp only [Act.put, List.setIfInBounds_toArray, List.set_cons_zero, List.set_cons_succ]
        refine wpAnyH_takeD (i := 9) (v := ?_) (some 23) rfl rfl (by kernel_rfl) (by kernel_rfl) (by kernel_rfl) (fun _ _ _ h => h) (Or.inl ⟨by rfl, ?_⟩) (by assumption) ?_
        rotate_left
        · intro w hSw; (try dsimp only at hSw); go_simp; (try with_reducible rfl)
        try simp only [Act.put, List.setIfInBounds_toArray, List.set_cons_zero, List.set_cons_succ]
        refine wpAnyH_takeD (i := 10) (v := ?_) (some 24) rfl rfl (by kernel_rfl) (by kernel_rfl) (by kernel_rfl) (fun _ _ _ h => h) (Or.inl ⟨by rfl, ?_⟩) (by assumption) ?_
        rotate_left
        · intro w hSw; (try dsimp only at hSw); go_simp; (try with_reducible rfl)
        try simp only [Act.put, List.setIfInBounds_toArray, List.set_cons_zero, List.set_cons_succ]
        refine wpAnyH_takeD (i := 11) (v := ?_) (some 25) rfl rfl (by kernel_rfl) (by kernel_rfl) (by kernel_rfl) (fun _ _ _ h => h) (Or.inl ⟨by rfl, ?_⟩) (by assumption) ?_
        rotate_left
        · intro w hSw; (try dsimp only at hSw); go_simp; (try with_reducible rfl)
        try simp only [Act.put, List.setIfInBounds_toArray, List.set_cons_zero, List.set_cons_succ]
        refine wpAnyH_takeD (i := 12) (v := ?_) (some 26) rfl rfl (by kernel_rfl) (by kernel_rfl) (by kernel_rfl) (fun _ _ _ h => h) (Or.inl ⟨by rfl, ?_⟩) (by assumption) ?_
        rotate_left
        · intro w hSw; (try dsimp only at hSw); go_simp; (try with_reducible rfl)
        try simp only [Act.put, List.setIfInBounds_toArray, List.set_cons_zero, List.set_cons_succ]
        refine wpAnyH_takeD (i := 13) (v := ?_) (some 27) rfl rfl (by kernel_rfl) (by kernel_rfl) (by kernel_rfl) (fun _ _ _ h => h) (Or.inl ⟨by rfl, ?_⟩) (by assumption) ?_
        rotate_left
        · intro w hSw; (try dsimp only at hSw); go_simp; (try with_reducible rfl)
        try simp only [Act.put, List.setIfInBounds_toArray, List.set_cons_zero, List.set_cons_succ]
        refine wpAnyH_takeD (i := 14) (v := ?_) (some 28) rfl rfl (by kernel_rfl) (by kernel_rfl) (by kernel_rfl) (fun _ _ _ h => h) (Or.inl ⟨by rfl, ?_⟩) (by assumption) ?_
        rotate_left
        · intro w hSw; (try dsimp only at hSw); go_simp; (try with_reducible rfl)
        try simp only [Act.put, List.setIfInBounds_toArray, List.set_cons_zero, List.set_cons_succ]
        refine wpAnyH_takeD (i := 15) (v := ?_) (some 29) rfl rfl (by kernel_rfl) (by kernel_rfl) (by kernel_rfl) (fun _ _ _ h => h) (Or.inl ⟨by rfl, ?_⟩) (by assumption) ?_
        rotate_left
        · intro w hSw; (try dsimp only at hSw); go_simp; (try with_reducible rfl)
        try simp only [Act.put, List.setIfInBounds_toArray, List.set_cons_zero, List.set_cons_succ]
        refine wpAnyH_takeD (i := 16) (v := ?_) (some 30) rfl rfl (by kernel_rfl) (by kernel_rfl) (by kernel_rfl) (fun _ _ _ h => h) (Or.inl ⟨by rfl, ?_⟩) (by assumption) ?_
        rotate_left
        · intro w hSw; (try dsimp only at hSw); go_simp; (try with_reducible rfl)
        try simp only [Act.put, List.setIfInBounds_toArray, List.set_cons_zero, List.set_cons_succ]
        refine wpAnyH_takeD (i := 17) (v := ?_) (some 31) rfl rfl (by kernel_rfl) (by kernel_rfl) (by kernel_rfl) (fun _ _ _ h => h) (Or.inl ⟨by rfl, ?_⟩) (by assumption) ?_
        rotate_left
        · intro w hSw; (try dsimp only at hSw); go_simp; (try with_reducible rfl)
        try simp only [Act.put, List.setIfInBounds_toArray, List.set_cons_zero, List.set_cons_succ]
        refine wpAnyH_takeD (i := 18) (v := ?_) (some 32) rfl rfl (by kernel_rfl) (by kernel_rfl) (by kernel_rfl) (fun _ _ _ h => h) (Or.inl ⟨by rfl, ?_⟩) (by assumption) ?_
        rotate_left
        · intro w hSw; (try dsimp only at hSw); go_simp; (try with_reducible rfl)
        try simp only [Act.put, List.setIfInBounds_toArray, List.set_cons_zero, List.set_cons_succ]
        refine wpAnyH_takeD (i := 19) (v := ?_) (some 33) rfl rfl (by kernel_rfl) (by kernel_rfl) (by kernel_rfl) (fun _ _ _ h => h) (Or.inl ⟨by rfl, ?_⟩) (by assumption) ?_
        rotate_left
        · intro w hSw; (try dsimp only at hSw); go_simp; (try with_reducible rfl)
        try simp only [Act.put, List.setIfInBounds_toArray, List.set_cons_zero, List.set_cons_succ]
        refine wpAnyH_done (by kernel_rfl) ?_ _
        refine NoPanic.normal ?_
        obtain ⟨-, q1, q2, q3, -, -, -, q7⟩ := FW.out w4 HB4.out
        have l4 := Nat.lt_of_lt_of_le hA1 HB4.out.size
        go_wp2_with fail
        go_end0
        rw [HV.out]
        exact ⟨⟨_, rfl⟩, FIN1.out w4 HB4.out⟩
      · have t2 : decide (s.fin < old) = false := by simpa using h2
        have hv : pv = old := by rw [HPV.out]; unfold putV; rw [hl, t1, t2]; rfl
        have HV := Lib.hid hv
        have HL := Lib.hid hl
        clear hl h1 hv h2
        refine wp_region_noPanic ?_
        refine wp_region_held_drew (S := (fun W' => W'.cell? ⟨gP, 0, none⟩ = some (.pointer (some ⟨k.g, 0, none⟩)) ∧ W'.cell? ⟨gO, 0, none⟩ = some (.slice (some ⟨gA, 0, none⟩) m c) ∧ W'.cell? ⟨gA, a, none⟩ = some (.int .i64 old) ∧ W'.cell? ⟨gX, 0, none⟩ = some (.int .i64 e) ∧ W'.cell? ⟨gX, 1, none⟩ = some (.int .i64 s.plates) ∧ W'.cell? ⟨gX, 2, none⟩ = some (.int .i64 s.beg) ∧ W'.cell? ⟨gX, 3, none⟩ = some (.int .i64 s.fin))) (by kernel_rfl) ?_ (fun hHeld => ?_)
        · (try dsimp only); ((have hs := FW.out w1 HB1.out); exact ⟨hs.1, hs.2.1, hs.2.2.1, hs.2.2.2.2.1, hs.2.2.2.2.2.1, hs.2.2.2.2.2.2.1, hs.2.2.2.2.2.2.2⟩)
        refine wpAnyH_takeD (i := 0) (v := ?_) (some 14) rfl rfl (by kernel_rfl) (by kernel_rfl) (by kernel_rfl) (fun _ _ _ h => h) (Or.inl ⟨by rfl, ?_⟩) (by assumption) ?_
        rotate_left
        · intro w hSw; (try dsimp only at hSw); go_simp; (try with_reducible rfl)
        try simp only [Act.put, List.setIfInBounds_toArray, List.set_cons_zero, List.set_cons_succ]
        refine wpAnyH_takeD (i := 1) (v := ?_) (some 15) rfl rfl (by kernel_rfl) (by kernel_rfl) (by kernel_rfl) (fun _ _ _ h => h) (Or.inl ⟨by rfl, ?_⟩) (by assumption) ?_
        rotate_left
        · intro w hSw; (try dsimp only at hSw); go_simp; (try with_reducible rfl)
        try simp only [Act.put, List.setIfInBounds_toArray, List.set_cons_zero, List.set_cons_succ]
        refine wpAnyH_ready (rs := [2]) (by kernel_rfl) (by simp) ?_
        refine AllReadyH.cons rfl (fun K hK => ?_) AllReadyH.nil
        (go_simp; go_at_call 80; refine (LT.out _ (by repeat (first | exact HB1.out | refine Below.drew ?_))).mono ?_; rintro r w4 ⟨rfl, hb4⟩; rw [HL.out]; have HB4 := Lib.hid (show Below w1.heap.size w1 w4 from (HB1.out.drew).trans hb4); clear hb4; go_wp2_with fail)
        refine hK.out _ _ ?_ (fun hHeld => ?_)
        · (try dsimp only); ((have hs := FW.out w4 HB4.out); exact ⟨hs.1, hs.2.1, hs.2.2.1, hs.2.2.2.2.1, hs.2.2.2.2.2.1, hs.2.2.2.2.2.2.1, hs.2.2.2.2.2.2.2⟩)
        clear hK K
        try simp only [List.getElem_toArray, List.getElem_cons_succ, List.getElem_cons_zero]
        try simp only [Act.put, List.setIfInBounds_toArray, List.set_cons_zero, List.set_cons_succ]
        refine wpAnyH_takeD (i := 3) (v := ?_) (some 17) rfl rfl (by kernel_rfl) (by kernel_rfl) (by kernel_rfl) (fun _ _ _ h => h) (Or.inl ⟨by rfl, ?_⟩) (by assumption) ?_
        rotate_left
        · intro w hSw; (try dsimp only at hSw); go_simp; (try with_reducible rfl)
        try simp only [Act.put, List.setIfInBounds_toArray, List.set_cons_zero, List.set_cons_succ]
        refine wpAnyH_takeD (i := 4) (v := ?_) (some 18) rfl rfl (by kernel_rfl) (by kernel_rfl) (by kernel_rfl) (fun _ _ _ h => h) (Or.inl ⟨by rfl, ?_⟩) (by assumption) ?_
        rotate_left
        · intro w hSw; (try dsimp only at hSw); go_simp; (try with_reducible rfl)
        try simp only [Act.put, List.setIfInBounds_toArray, List.set_cons_zero, List.set_cons_succ]
        refine wpAnyH_takeD (i := 5) (v := ?_) (some 19) rfl rfl (by kernel_rfl) (by kernel_rfl) (by kernel_rfl) (fun _ _ _ h => h) (Or.inl ⟨by rfl, ?_⟩) (by assumption) ?_
        rotate_left
        · intro w hSw; (try dsimp only at hSw); go_simp; (try with_reducible rfl)
        try simp only [Act.put, List.setIfInBounds_toArray, List.set_cons_zero, List.set_cons_succ]
        refine wpAnyH_takeD (i := 6) (v := ?_) (some 20) rfl rfl (by kernel_rfl) (by kernel_rfl) (by kernel_rfl) (fun _ _ _ h => h) (Or.inl ⟨by rfl, ?_⟩) (by assumption) ?_
        rotate_left
        · intro w hSw; (try dsimp only at hSw); go_simp; (try with_reducible rfl)
        try simp only [Act.put, List.setIfInBounds_toArray, List.set_cons_zero, List.set_cons_succ]
        refine wpAnyH_takeD (i := 7) (v := ?_) (some 21) rfl rfl (by kernel_rfl) (by kernel_rfl) (by kernel_rfl) (fun _ _ _ h => h) (Or.inl ⟨by rfl, ?_⟩) (by assumption) ?_
        rotate_left
        · intro w hSw; (try dsimp only at hSw); go_simp; (try with_reducible rfl)
        try simp only [Act.put, List.setIfInBounds_toArray, List.set_cons_zero, List.set_cons_succ]
        refine wpAnyH_takeD (i := 8) (v := ?_) (some 22) rfl rfl (by kernel_rfl) (by kernel_rfl) (by kernel_rfl) (fun _ _ _ h => h) (Or.inl ⟨by rfl, ?_⟩) (by assumption) ?_
        rotate_left
        · intro w hSw; (try dsimp only at hSw); go_simp; (try with_reducible rfl)
        try simp only [Act.put, List.setIfInBounds_toArray, List.set_cons_zero, List.set_cons_succ]
        refine wpAnyH_takeD (i := 9) (v := ?_) (some 23) rfl rfl (by kernel_rfl) (by kernel_rfl) (by kernel_rfl) (fun _ _ _ h => h) (Or.inl ⟨by rfl, ?_⟩) (by assumption) ?_
        rotate_left
        · intro w hSw; (try dsimp only at hSw); go_simp; (try with_reducible rfl)
        try simp only [Act.put, List.setIfInBounds_toArray, List.set_cons_zero, List.set_cons_succ]
        refine wpAnyH_takeD (i := 10) (v := ?_) (some 24) rfl rfl (by kernel_rfl) (by kernel_rfl) (by kernel_rfl) (fun _ _ _ h => h) (Or.inl ⟨by rfl, ?_⟩) (by assumption) ?_
        rotate_left
        · intro w hSw; (try dsimp only at hSw); go_simp; (try with_reducible rfl)
        try simp only [Act.put, List.setIfInBounds_toArray, List.set_cons_zero, List.set_cons_succ]
        refine wpAnyH_takeD (i := 11) (v := ?_) (some 25) rfl rfl (by kernel_rfl) (by kernel_rfl) (by kernel_rfl) (fun _ _ _ h => h) (Or.inl ⟨by rfl, ?_⟩) (by assumption) ?_
        rotate_left
        · intro w hSw; (try dsimp only at hSw); go_simp; (try with_reducible rfl)
        try simp only [Act.put, List.setIfInBounds_toArray, List.set_cons_zero, List.set_cons_succ]
        refine wpAnyH_takeD (i := 12) (v := ?_) (some 26) rfl rfl (by kernel_rfl) (by kernel_rfl) (by kernel_rfl) (fun _ _ _ h => h) (Or.inl ⟨by rfl, ?_⟩) (by assumption) ?_
        rotate_left
        · intro w hSw; (try dsimp only at hSw); go_simp; (try with_reducible rfl)
        try simp only [Act.put, List.setIfInBounds_toArray, List.set_cons_zero, List.set_cons_succ]
        refine wpAnyH_takeD (i := 13) (v := ?_) (some 27) rfl rfl (by kernel_rfl) (by kernel_rfl) (by kernel_rfl) (fun _ _ _ h => h) (Or.inl ⟨by rfl, ?_⟩) (by assumption) ?_
        rotate_left
        · intro w hSw; (try dsimp only at hSw); go_simp; (try with_reducible rfl)
        try simp only [Act.put, List.setIfInBounds_toArray, List.set_cons_zero, List.set_cons_succ]
        refine wpAnyH_takeD (i := 14) (v := ?_) (some 28) rfl rfl (by kernel_rfl) (by kernel_rfl) (by kernel_rfl) (fun _ _ _ h => h) (Or.inl ⟨by rfl, ?_⟩) (by assumption) ?_
        rotate_left
        · intro w hSw; (try dsimp only at hSw); go_simp; (try with_reducible rfl)
        try simp only [Act.put, List.setIfInBounds_toArray, List.set_cons_zero, List.set_cons_succ]
        refine wpAnyH_takeD (i := 15) (v := ?_) (some 29) rfl rfl (by kernel_rfl) (by kernel_rfl) (by kernel_rfl) (fun _ _ _ h => h) (Or.inl ⟨by rfl, ?_⟩) (by assumption) ?_
        rotate_left
        · intro w hSw; (try dsimp only at hSw); go_simp; (try with_reducible rfl)
        try simp only [Act.put, List.setIfInBounds_toArray, List.set_cons_zero, List.set_cons_succ]
        refine wpAnyH_takeD (i := 16) (v := ?_) (some 30) rfl rfl (by kernel_rfl) (by kernel_rfl) (by kernel_rfl) (fun _ _ _ h => h) (Or.inl ⟨by rfl, ?_⟩) (by assumption) ?_
        rotate_left
        · intro w hSw; (try dsimp only at hSw); go_simp; (try with_reducible rfl)
        try simp only [Act.put, List.setIfInBounds_toArray, List.set_cons_zero, List.set_cons_succ]
        refine wpAnyH_takeD (i := 17) (v := ?_) (some 31) rfl rfl (by kernel_rfl) (by kernel_rfl) (by kernel_rfl) (fun _ _ _ h => h) (Or.inl ⟨by rfl, ?_⟩) (by assumption) ?_
        rotate_left
        · intro w hSw; (try dsimp only at hSw); go_simp; (try with_reducible rfl)
        try simp only [Act.put, List.setIfInBounds_toArray, List.set_cons_zero, List.set_cons_succ]
        refine wpAnyH_takeD (i := 18) (v := ?_) (some 32) rfl rfl (by kernel_rfl) (by kernel_rfl) (by kernel_rfl) (fun _ _ _ h => h) (Or.inl ⟨by rfl, ?_⟩) (by assumption) ?_
        rotate_left
        · intro w hSw; (try dsimp only at hSw); go_simp; (try with_reducible rfl)
        try simp only [Act.put, List.setIfInBounds_toArray, List.set_cons_zero, List.set_cons_succ]
        refine wpAnyH_takeD (i := 19) (v := ?_) (some 33) rfl rfl (by kernel_rfl) (by kernel_rfl) (by kernel_rfl) (fun _ _ _ h => h) (Or.inl ⟨by rfl, ?_⟩) (by assumption) ?_
        rotate_left
        · intro w hSw; (try dsimp only at hSw); go_simp; (try with_reducible rfl)
        try simp only [Act.put, List.setIfInBounds_toArray, List.set_cons_zero, List.set_cons_succ]
        refine wpAnyH_done (by kernel_rfl) ?_ _
        refine NoPanic.normal ?_
        go_wp2_with fail
        go_end0
        rw [HV.out, HUP.out]
        exact ⟨⟨_, rfl⟩, FIN0.out w4 HB4.out⟩
  · have hv : pv = old := by rw [HPV.out]; unfold putV; rw [hl]; rfl
    have HV := Lib.hid hv
    have HL := Lib.hid hl
    clear hl hv
    refine wp_region_noPanic ?_
    refine wp_region_held_drew (S := (fun W' => W'.cell? ⟨gP, 0, none⟩ = some (.pointer (some ⟨k.g, 0, none⟩)) ∧ W'.cell? ⟨gO, 0, none⟩ = some (.slice (some ⟨gA, 0, none⟩) m c) ∧ W'.cell? ⟨gA, a, none⟩ = some (.int .i64 old) ∧ W'.cell? ⟨gX, 0, none⟩ = some (.int .i64 e) ∧ W'.cell? ⟨gX, 1, none⟩ = some (.int .i64 s.plates) ∧ W'.cell? ⟨gX, 2, none⟩ = some (.int .i64 s.beg) ∧ W'.cell? ⟨gX, 3, none⟩ = some (.int .i64 s.fin))) (by kernel_rfl) ?_ (fun hHeld => ?_)
    · (try dsimp only); ((have hs := FW.out w1 HB1.out); exact ⟨hs.1, hs.2.1, hs.2.2.1, hs.2.2.2.2.1, hs.2.2.2.2.2.1, hs.2.2.2.2.2.2.1, hs.2.2.2.2.2.2.2⟩)
    refine wpAnyH_takeD (i := 0) (v := ?_) (some 14) rfl rfl (by kernel_rfl) (by kernel_rfl) (by kernel_rfl) (fun _ _ _ h => h) (Or.inl ⟨by rfl, ?_⟩) (by assumption) ?_
    rotate_left
    · intro w hSw; (try dsimp only at hSw); go_simp; (try with_reducible rfl)
    try simp only [Act.put, List.setIfInBounds_toArray, List.set_cons_zero, List.set_cons_succ]
    refine wpAnyH_takeD (i := 1) (v := ?_) (some 15) rfl rfl (by kernel_rfl) (by kernel_rfl) (by kernel_rfl) (fun _ _ _ h => h) (Or.inl ⟨by rfl, ?_⟩) (by assumption) ?_
    rotate_left
    · intro w hSw; (try dsimp only at hSw); go_simp; (try with_reducible rfl)
    try simp only [Act.put, List.setIfInBounds_toArray, List.set_cons_zero, List.set_cons_succ]
    refine wpAnyH_ready (rs := [2]) (by kernel_rfl) (by simp) ?_
    refine AllReadyH.cons rfl (fun K hK => ?_) AllReadyH.nil
    (go_simp; go_at_call 80; refine (LT.out _ (by repeat (first | exact HB1.out | refine Below.drew ?_))).mono ?_; rintro r w4 ⟨rfl, hb4⟩; rw [HL.out]; have HB4 := Lib.hid (show Below w1.heap.size w1 w4 from (HB1.out.drew).trans hb4); clear hb4; go_wp2_with fail)
    refine hK.out _ _ ?_ (fun hHeld => ?_)
    · (try dsimp only); ((have hs := FW.out w4 HB4.out); exact ⟨hs.1, hs.2.1, hs.2.2.1, hs.2.2.2.2.1, hs.2.2.2.2.2.1, hs.2.2.2.2.2.2.1, hs.2.2.2.2.2.2.2⟩)
    clear hK K
    try simp only [List.getElem_toArray, List.getElem_cons_succ, List.getElem_cons_zero]
    try simp only [Act.put, List.setIfInBounds_toArray, List.set_cons_zero, List.set_cons_succ]
    refine wpAnyH_takeD (i := 3) (v := ?_) (some 17) rfl rfl (by kernel_rfl) (by kernel_rfl) (by kernel_rfl) (fun _ _ _ h => h) (Or.inl ⟨by rfl, ?_⟩) (by assumption) ?_
    rotate_left
    · intro w hSw; (try dsimp only at hSw); go_simp; (try with_reducible rfl)
    try simp only [Act.put, List.setIfInBounds_toArray, List.set_cons_zero, List.set_cons_succ]
    refine wpAnyH_takeD (i := 4) (v := ?_) (some 18) rfl rfl (by kernel_rfl) (by kernel_rfl) (by kernel_rfl) (fun _ _ _ h => h) (Or.inl ⟨by rfl, ?_⟩) (by assumption) ?_
    rotate_left
    · intro w hSw; (try dsimp only at hSw); go_simp; (try with_reducible rfl)
    try simp only [Act.put, List.setIfInBounds_toArray, List.set_cons_zero, List.set_cons_succ]
    refine wpAnyH_takeD (i := 5) (v := undef) (some 19) rfl rfl (by kernel_rfl) (by kernel_rfl) (by kernel_rfl) (fun _ _ _ h => h) (Or.inr ⟨by kernel_rfl, rfl⟩) (by assumption) ?_
    try simp only [Act.put, List.setIfInBounds_toArray, List.set_cons_zero, List.set_cons_succ]
    refine wpAnyH_takeD (i := 6) (v := undef) (some 20) rfl rfl (by kernel_rfl) (by kernel_rfl) (by kernel_rfl) (fun _ _ _ h => h) (Or.inr ⟨by kernel_rfl, rfl⟩) (by assumption) ?_
    try simp only [Act.put, List.setIfInBounds_toArray, List.set_cons_zero, List.set_cons_succ]
    refine wpAnyH_takeD (i := 7) (v := undef) (some 21) rfl rfl (by kernel_rfl) (by kernel_rfl) (by kernel_rfl) (fun _ _ _ h => h) (Or.inr ⟨by kernel_rfl, rfl⟩) (by assumption) ?_
    try simp only [Act.put, List.setIfInBounds_toArray, List.set_cons_zero, List.set_cons_succ]
    refine wpAnyH_takeD (i := 8) (v := undef) (some 22) rfl rfl (by kernel_rfl) (by kernel_rfl) (by kernel_rfl) (fun _ _ _ h => h) (Or.inr ⟨by kernel_rfl, rfl⟩) (by assumption) ?_
    try simp only [Act.put, List.setIfInBounds_toArray, List.set_cons_zero, List.set_cons_succ]
    refine wpAnyH_takeD (i := 9) (v := undef) (some 23) rfl rfl (by kernel_rfl) (by kernel_rfl) (by kernel_rfl) (fun _ _ _ h => h) (Or.inr ⟨by kernel_rfl, rfl⟩) (by assumption) ?_
    try simp only [Act.put, List.setIfInBounds_toArray, List.set_cons_zero, List.set_cons_succ]
    refine wpAnyH_takeD (i := 10) (v := undef) (some 24) rfl rfl (by kernel_rfl) (by kernel_rfl) (by kernel_rfl) (fun _ _ _ h => h) (Or.inr ⟨by kernel_rfl, rfl⟩) (by assumption) ?_
    try simp only [Act.put, List.setIfInBounds_toArray, List.set_cons_zero, List.set_cons_succ]
    refine wpAnyH_takeD (i := 11) (v := undef) (some 25) rfl rfl (by kernel_rfl) (by kernel_rfl) (by kernel_rfl) (fun _ _ _ h => h) (Or.inr ⟨by kernel_rfl, rfl⟩) (by assumption) ?_
    try simp only [Act.put, List.setIfInBounds_toArray, List.set_cons_zero, List.set_cons_succ]
    refine wpAnyH_takeD (i := 12) (v := undef) (some 26) rfl rfl (by kernel_rfl) (by kernel_rfl) (by kernel_rfl) (fun _ _ _ h => h) (Or.inr ⟨by kernel_rfl, rfl⟩) (by assumption) ?_
    try simp only [Act.put, List.setIfInBounds_toArray, List.set_cons_zero, List.set_cons_succ]
    refine wpAnyH_takeD (i := 13) (v := undef) (some 27) rfl rfl (by kernel_rfl) (by kernel_rfl) (by kernel_rfl) (fun _ _ _ h => h) (Or.inr ⟨by kernel_rfl, rfl⟩) (by assumption) ?_
    try simp only [Act.put, List.setIfInBounds_toArray, List.set_cons_zero, List.set_cons_succ]
    refine wpAnyH_takeD (i := 14) (v := undef) (some 28) rfl rfl (by kernel_rfl) (by kernel_rfl) (by kernel_rfl) (fun _ _ _ h => h) (Or.inr ⟨by kernel_rfl, rfl⟩) (by assumption) ?_
    try simp only [Act.put, List.setIfInBounds_toArray, List.set_cons_zero, List.set_cons_succ]
    refine wpAnyH_takeD (i := 15) (v := undef) (some 29) rfl rfl (by kernel_rfl) (by kernel_rfl) (by kernel_rfl) (fun _ _ _ h => h) (Or.inr ⟨by kernel_rfl, rfl⟩) (by assumption) ?_
    try simp only [Act.put, List.setIfInBounds_toArray, List.set_cons_zero, List.set_cons_succ]
    refine wpAnyH_takeD (i := 16) (v := undef) (some 30) rfl rfl (by kernel_rfl) (by kernel_rfl) (by kernel_rfl) (fun _ _ _ h => h) (Or.inr ⟨by kernel_rfl, rfl⟩) (by assumption) ?_
    try simp only [Act.put, List.setIfInBounds_toArray, List.set_cons_zero, List.set_cons_succ]
    refine wpAnyH_takeD (i := 17) (v := undef) (some 31) rfl rfl (by kernel_rfl) (by kernel_rfl) (by kernel_rfl) (fun _ _ _ h => h) (Or.inr ⟨by kernel_rfl, rfl⟩) (by assumption) ?_
    try simp only [Act.put, List.setIfInBounds_toArray, List.set_cons_zero, List.set_cons_succ]
    refine wpAnyH_takeD (i := 18) (v := undef) (some 32) rfl rfl (by kernel_rfl) (by kernel_rfl) (by kernel_rfl) (fun _ _ _ h => h) (Or.inr ⟨by kernel_rfl, rfl⟩) (by assumption) ?_
    try simp only [Act.put, List.setIfInBounds_toArray, List.set_cons_zero, List.set_cons_succ]
    refine wpAnyH_takeD (i := 19) (v := ?_) (some 33) rfl rfl (by kernel_rfl) (by kernel_rfl) (by kernel_rfl) (fun _ _ _ h => h) (Or.inl ⟨by rfl, ?_⟩) (by assumption) ?_
    rotate_left
    · intro w hSw; (try dsimp only at hSw); go_simp; (try with_reducible rfl)
    try simp only [Act.put, List.setIfInBounds_toArray, List.set_cons_zero, List.set_cons_succ]
    refine wpAnyH_done (by kernel_rfl) ?_ _
    refine NoPanic.normal ?_
    go_wp2_with fail
    go_end0
    rw [HV.out, HUP.out]
    exact ⟨⟨_, rfl⟩, FIN0.out w4 HB4.out⟩
end Go.Proofs.Ytokdleanpkkdpaa
namespace Go.Ed
open Go.RowKit
theorem and_one : ∀ v, v < 128 → bits .and .i64 ((v : Nat) : Int) 1 = if v % 2 = 1 then 1 else 0 := by decide +kernel
theorem or_bit : ∀ set, set < 128 → ∀ e, e < 7 → bitB set e = false → bits .or .i64 ((set : Nat) : Int) ((2 ^ e : Nat) : Int) = ((set + 2 ^ e : Nat) : Int) := by decide +kernel
theorem shr_and {set e : Nat} (h : set < 128) : bits .and .i64 (((set / 2 ^ e : Nat) : Int)) 1 = if bitB set e then 1 else 0 := by
  rw [and_one _ (Nat.lt_of_le_of_lt (Nat.div_le_self _ _) h)]
  unfold bitB
  by_cases q : set / 2 ^ e % 2 = 1
  · rw [if_pos q, if_pos (by simpa using q)]
  · rw [if_neg q, if_neg (by simpa using q)]
theorem late_fin {es : List EdD} (hd : ∀ e : Nat, (es.getD e ed0).due ≤ 86400) {s : SloD} (h : lateB es s = false) : s.fin ≤ 86400 := by
  unfold lateB at h
  have := hd s.edition.toNat
  simp only [decide_eq_false_iff_not] at h
  omega
theorem leaT_le {t : TitD} {es : List EdD} (hd : ∀ e : Nat, (es.getD e ed0).due ≤ 86400) (S e : Nat) : leaT t es S e ≤ 86400 := by
  rw [leaT_eq]
  split
  · omega
  · split
    · rcases putV_cases (es := es) (old := -1) (s := firstS t es e) with ⟨h, _⟩ | ⟨h, h2, _⟩
      · rw [h]; omega
      · rw [h]; exact late_fin hd h2
    · rcases leaG_from t es (leaT t es (S - 2 ^ e)) e es.length with h | ⟨b, _, _, h2, h⟩
      · rw [h]; omega
      · rw [h]; exact late_fin hd h2
theorem edsR_due {t : TitD} (h : ChkOk t) (e : Nat) : ((edsR t).getD e ed0).due ≤ 86400 := by
  by_cases he : e < (edsR t).length
  · exact (edsR_ok h (getD_mem he)).d1
  · rw [List.getD_eq_getElem?_getD, List.getElem?_eq_none (by omega)]; show (0 : Int) ≤ 86400; omega
theorem firstS_ed (t : TitD) (es : List EdD) (e : Nat) : (firstS t es e).edition = (e : Int) := rfl
theorem nextS_ed (t : TitD) (es : List EdD) (e b : Nat) (x : Int) : (nextS t es e b x).edition = (e : Int) := rfl
end Go.Ed
namespace Go.Proofs.Ytokdleanpkkdpaa
open Go.RowKit Go.Fh Go.Ed
/-- a table at work -/
structure TabAt (W0 W : World) (k : Wk) (n m gN gP gO gA c : Nat) (f : Nat → Nat → Int) : Prop where
  b : Below W0.heap.size W0 W
  cN : Blk W gN 3 #[.int .i64 n]
  cP : Blk W gP 124 #[.pointer (some ⟨k.g, 0, none⟩)]
  cO : Blk W gO 22 #[.slice (some ⟨gA, 0, none⟩) m c]
  row : W.ownsRow W0.heap.size 3 1 (.slice (some ⟨gA, 0, none⟩) m c) m (tabW n f)
theorem TabAt.below {W0 W W' : World} {k : Wk} {n m gN gP gO gA c : Nat} {f : Nat → Nat → Int} (h : TabAt W0 W k n m gN gP gO gA c f) (hb : Below W.heap.size W W') : TabAt W0 W' k n m gN gP gO gA c f :=
  ⟨h.b.trans (hb.mono h.b.size), h.cN.below hb h.cN.lt, h.cP.below hb h.cP.lt, h.cO.below hb h.cO.lt, own_belowV h.row hb⟩
theorem TabAt.same {W0 W W' : World} {k : Wk} {n m gN gP gO gA c : Nat} {f g : Nat → Nat → Int} (h : TabAt W0 W k n m gN gP gO gA c f) (hs : Same gA gA none W W') (hN : gN ≠ gA) (ho : W'.ownsRow W0.heap.size 3 1 (.slice (some ⟨gA, 0, none⟩) m c) m (tabW n g)) : TabAt W0 W' k n m gN gP gO gA c g := by
  have hg := (h.row.lt gA rfl).1
  have nP : gP ≠ gA := fun e => own_blk_ne h.row h.cP (by decide) (by rw [e]; rfl)
  have nO : gO ≠ gA := fun e => own_blk_ne h.row h.cO (by decide) (by rw [e]; rfl)
  exact ⟨hs.below h.b h.b.size hg hg (fun j e => by cases e), hs.blk h.cN hN hN (by simp), hs.blk h.cP nP nP (by simp), hs.blk h.cO nO nO (by simp), ho⟩
theorem TabAt.congr {W0 W : World} {k : Wk} {n m gN gP gO gA c : Nat} {f g : Nat → Nat → Int} (h : TabAt W0 W k n m gN gP gO gA c f) (e : TabEq n f g) : TabAt W0 W k n m gN gP gO gA c g :=
  ⟨h.b, h.cN, h.cP, h.cO, by rw [← tabW_congr e]; exact h.row⟩
theorem pow_int (e : Nat) : ((2 : Int) ^ e) = ((2 ^ e : Nat) : Int) := by push_cast; rfl
theorem shl_one {e p : Nat} (h : e ≤ 7) (hp : p = 2 ^ e) : IntKind.i64.wrap ((2 : Int) ^ e) = (p : Int) := by
  have := pow_le128 h
  rw [pow_int, hp, IntKind.wrap_i64]; omega
theorem bit_one {S e : Nat} (h : S < 128) (hb : bitB S e = true) : bits .and .i64 ((S : Int) / 2 ^ e) 1 = 1 := by
  have := shr_and (e := e) h
  rw [hb] at this
  rw [pow_int, ← Int.natCast_ediv]; exact this
theorem bit_nil {S e : Nat} (h : S < 128) (hb : bitB S e = false) : bits .and .i64 ((S : Int) / 2 ^ e) 1 = 0 := by
  have := shr_and (e := e) h
  rw [hb] at this
  rw [pow_int, ← Int.natCast_ediv]; exact this
/-- a push into a table at work -/
theorem put_w (t : TitD) (x : TA) (k : Wk) (B : Nat) (W0 : World) (hc : ChkOk t) (hW : WorkAt W0 B t x k) (n m gN gP gO gA c : Nat) (hn : n = k.es.length) (hmE : m = n * 2 ^ n) (hne : gN ≠ gA) (f : Nat → Nat → Int) (S e : Nat) (s : SloD) (W : World)
    (h : TabAt W0 W k n m gN gP gO gA c f) (hS : S < 2 ^ n) (he : e < n) (hse : s.edition = (e : Int)) :
    Calls Try.prog 121 #[.int .i64 S, .agg #[.int .i64 e, .int .i64 s.plates, .int .i64 s.beg, .int .i64 s.fin], .pointer (some ⟨gN, 0, none⟩), .pointer (some ⟨gP, 0, none⟩), .pointer (some ⟨gO, 0, none⟩)] W fun r W' => (∃ v, r = .returned v) ∧
      Hid (TabAt W0 W' k n m gN gP gO gA c (updF f S e (putV (edsR t) (f S e) s))) :=
  (put_any t x k B W0 hc hW n m hn hmE gN gP gO gA c f S e s W h.b h.cN h.cP h.cO (h.row.lt gA rfl).1 h.row hS he hse).mono (by
    rintro r W' ⟨hr, ho, hs⟩
    exact ⟨hr, h.same hs hne ho⟩)
set_option maxRecDepth 100000 in
set_option maxHeartbeats 8000000 in
theorem table_any (t : TitD) (x : TA) (k : Wk) (B : Nat) (w : World) (hc : ChkOk t) (hW : WorkAt w B t x k) (n m : Nat) (hn : n = k.es.length) (hm : m = n * 2 ^ n) :
    Calls Try.prog 83 #[.pointer (some ⟨k.g, 0, none⟩)] w fun r w' => ∃ gA c, r = .returned (.slice (some ⟨gA, 0, none⟩) m c) ∧ w'.ownsRow w.heap.size 3 1 (.slice (some ⟨gA, 0, none⟩) m c) m (tabW n (leaT t (edsR t))) ∧ Below w.heap.size w w' := by
  have hne : n = (edsR t).length := by rw [hn, hW.len]
  have hn1 : 1 ≤ n := by rw [hne, edsR_len]; exact hc.n0
  have hn7 : n ≤ 7 := by rw [hne, edsR_len]; exact hc.n1
  have hp := pow_le128 hn7
  have hm1 : 1 ≤ m := by rw [hm]; exact Nat.mul_pos hn1 (Nat.two_pow_pos n)
  have hm2 : m ≤ 1000 := by rw [hm]; exact Nat.le_trans (Nat.mul_le_mul hn7 hp) (by omega)
  obtain ⟨P, hP⟩ : ∃ P, P = 2 ^ n := ⟨_, rfl⟩
  have y8 := hW.hk.cell 8
  simp [workV] at y8
  rw [← hn] at y8
  have hlk := hW.hk.lt
  have HW := Lib.hid hW
  have HC := Lib.hid hc
  have HN := Lib.hid (And.intro hn (And.intro hne (And.intro hm hP)))
  have sh1 : IntKind.i64.wrap ((n : Int) * 2 ^ n) = (m : Int) := by
    have : (n : Int) * 2 ^ n = (m : Int) := by rw [hm]; push_cast; rfl
    rw [this, IntKind.wrap_i64]; omega
  have sh2 : IntKind.i64.wrap ((2 : Int) ^ n) = (P : Int) := shl_one hn7 hP
  have hFI := fun (e : Nat) (he : e < n) (W' : World) (hb : Below w.heap.size w W') => first_any t hc.ok x k.es k.E k.C k.cE k.cC k.g e W' (by omega) (by omega) (edsR_ok hc (by rw [← hW.eds]; exact List.mem_map.2 ⟨_, List.getElem_mem (by omega), rfl⟩)) (hW.below hb).hk (hW.below hb).hE
  have hNX := fun (e q : Nat) (fin : Int) (he : e < n) (hq : q < n) (h0 : 0 ≤ fin) (h1 : fin ≤ 100000000000) (W' : World) (hb : Below w.heap.size w W') => next_any t hc.ok x k.es k.E k.C k.cE k.cC k.g k.rows e q fin W' (by omega) (by omega) (by omega) (edsR_ok hc (by rw [← hW.eds]; exact List.mem_map.2 ⟨_, List.getElem_mem (by omega), rfl⟩)) h0 h1 (hW.below hb).hk (hW.below hb).hE (hW.below hb).hrl (hW.below hb).hC (hW.below hb).hR
  rw [hW.eds] at hFI hNX
  have HFI := Lib.hid hFI
  have HNX := Lib.hid hNX
  have hld : ∀ S e, leaT t (edsR t) S e ≤ 86400 := by
    exact fun S e => leaT_le (edsR_due hc) S e
  have HLD := Lib.hid hld
  clear hW hc hn hne hm hp hFI hNX hP hld
  go_enter Try.func83, Try.ntmps83
  go_upto_region 2 with fail
  obtain ⟨gP, hgP⟩ : ∃ g, g = w.heap.size := ⟨_, rfl⟩
  obtain ⟨gN, hgN⟩ : ∃ g, g = w.heap.size + 1 := ⟨_, rfl⟩
  obtain ⟨gS, hgS⟩ : ∃ g, g = w.heap.size + 1 + 1 := ⟨_, rfl⟩
  obtain ⟨w2, hw2⟩ : ∃ W, W = ((w.alloc (.cells #[.pointer (some ⟨k.g, 0, none⟩)] 124)).alloc (.cells #[.int .i64 n] 3)).alloc (.cells #[.int .i64 (-1)] 3) := ⟨_, rfl⟩
  have hb2 : Below w.heap.size w w2 := by rw [hw2]; exact (((Below.refl _ _).alloc (Nat.le_refl _) _).alloc (by simp) _).alloc (by simp; omega) _
  have kP : Blk w2 gP 124 #[.pointer (some ⟨k.g, 0, none⟩)] := by rw [hw2, hgP]; exact ((blkAt rfl 124 _).alloc _).alloc _
  have kN : Blk w2 gN 3 #[.int .i64 n] := by rw [hw2, hgN]; exact (blkAt (by simp) 3 _).alloc _
  have kS : Blk w2 gS 3 #[.int .i64 (-1)] := by rw [hw2, hgS]; exact blkAt (by simp) 3 _
  have hs2 : w2.heap.size = w.heap.size + 3 := by rw [hw2]; simp
  have hSl : Sl encInt 1 w2 w2.heap.size (some ⟨gS, 0, none⟩) [-1] := Sl.of_blk (enc := encInt) (size := 1) (l := [-1]) (e := 3) (fun _ => rfl) (by simp [maxLen]) kS rfl
  have HRP := Lib.hid (repeat_any (some ⟨gS, 0, none⟩) 1 (-1) m w2 hm1 (by omega) hSl)
  have HW2 := Lib.hid hw2
  have HG := Lib.hid (And.intro hgP (And.intro hgN hgS))
  have KP := Lib.hid kP
  have KN := Lib.hid kN
  have HB2 := Lib.hid hb2
  have hgN1 : w.heap.size ≤ gN ∧ gN < w2.heap.size := by omega
  clear hw2 hgP hgN hgS kP kN kS hSl hb2 hs2
  go_wp2_with fail
  rw [← HG.out.2.2, ← HG.out.2.1, ← HG.out.1, ← HW2.out]
  refine HRP.out.mono ?_
  rintro e w3 ⟨gA, rfl, hgA, kA, hb3⟩
  obtain ⟨gO, hgO⟩ : ∃ g, g = w3.heap.size := ⟨_, rfl⟩
  obtain ⟨w4, hw4⟩ : ∃ W, W = w3.alloc (.cells #[.slice (some ⟨gA, 0, none⟩) m m] 22) := ⟨_, rfl⟩
  have hb34 : Below w3.heap.size w3 w4 := by rw [hw4]; exact (Below.refl _ _).alloc (Nat.le_refl _) _
  have hb24 := hb3.trans (hb34.mono hb3.size)
  have hrow : w4.ownsRow w.heap.size 3 1 (.slice (some ⟨gA, 0, none⟩) m m) m (tabW n (tabF t (edsR t) 0)) := by
    have h1 : tabW n (tabF t (edsR t) 0) = List.replicate m (Value.int .i64 (-1)) := by
      rw [← tabW_congr (by rw [HN.out.2.1]; exact tabF_zero t (edsR t))]
      unfold tabW
      rw [tabL_const, ← HN.out.2.2.1, List.map_replicate]
    rw [h1]
    exact ⟨by simp, .inr ⟨gA, m, _, rfl, Nat.le_trans HB2.out.size hgA, kA.below hb34 kA.lt, Nat.le_refl _, by simp only [maxLen]; omega, by simp, by simp⟩⟩
  have hT0 : TabAt w w4 k n m gN gP gO gA m (tabF t (edsR t) 0) :=
    ⟨HB2.out.trans (hb24.mono HB2.out.size), KN.out.below hb24 KN.out.lt, KP.out.below hb24 KP.out.lt, by rw [hw4, hgO]; exact blkAt rfl 22 _, hrow⟩
  have hneA : gN ≠ gA := by omega
  have HT0 := Lib.hid hT0
  have HW4 := Lib.hid (And.intro hw4 hgO)
  clear hb34 hb24 hrow hT0 hw4 hgO kA hb3 hgA sh1
  have n0 := HT0.out.cN.cell 0
  have nl := HT0.out.cN.lt
  have ol := HT0.out.cO.lt
  simp at n0
  go_upto_region 3 with fail
  rw [← HW4.out.2, ← HW4.out.1]
  go_wp2_with fail
  clear n0
  go_loopw [23] (fun i wr => ∃ j : Nat, j ≤ n ∧ i = .int .i64 j ∧ Hid (TabAt w wr k n m gN gP gO gA m (tabF t (edsR t) j))) (fun i _ => n - (intOf i).toNat)
  case atStart => exact ⟨0, Nat.zero_le _, rfl, HT0⟩
  case round =>
    obtain ⟨j, hj, rfl, HT⟩ := hrel
    by_cases hlt : j < n
    · skip
      obtain ⟨pj, hpj⟩ : ∃ p, p = 2 ^ j := ⟨_, rfl⟩
      have sj : IntKind.i64.wrap ((2 : Int) ^ j) = (pj : Int) := shl_one (by omega) hpj
      obtain ⟨s, hs⟩ : ∃ s, s = firstS t (edsR t) j := ⟨_, rfl⟩
      have hse : s.edition = (j : Int) := by rw [hs]; rfl
      have F87 := Lib.hid (show ∀ W', Below wr.heap.size wr W' → Calls Try.prog 87 #[.pointer (some ⟨k.g, 0, none⟩), .int .i64 j] W' fun r w' => r = .returned (.agg #[.int .i64 j, .int .i64 s.plates, .int .i64 s.beg, .int .i64 s.fin]) ∧ Below W'.heap.size W' w' from fun W' hb => by
        have := HFI.out j hlt W' (HT.out.b.trans (hb.mono HT.out.b.size))
        rw [← hs] at this
        unfold slV at this
        rw [hse] at this
        exact this)
      have hpjn : pj < 2 ^ n := by rw [hpj]; exact Nat.pow_lt_pow_right (by omega) hlt
      have hPUT := fun W' (hb : Below wr.heap.size wr W') => put_w t x k B w HC.out HW.out n m gN gP gO gA m HN.out.1 HN.out.2.2.1 hneA _ pj j s W' (HT.out.below hb) hpjn hlt hse
      have PUT := Lib.hid hPUT
      have HNEXT := Lib.hid (show TabEq n (updF (tabF t (edsR t) j) pj j (putV (edsR t) (tabF t (edsR t) j pj j) s)) (tabF t (edsR t) (j + 1)) from by
        rw [hpj, hs, HN.out.2.1]; exact tabF_next t (edsR t) (by rw [← HN.out.2.1]; exact hlt))
      have HBr := Lib.hid (Below.refl wr.heap.size wr)
      have SP := Lib.hid (show ∀ W', Below wr.heap.size wr W' → W'.cell? ⟨gP, 0, none⟩ = some (.pointer (some ⟨k.g, 0, none⟩)) from fun W' hb => by rw [(HT.out.below hb).cP.cell]; rfl)
      clear hpj hs hse hPUT
      have n0 := HT.out.cN.cell 0
      simp at n0
      go_upto_region 7 with fail
      clear n0
      go_region_held3 (fun W' => W'.cell? ⟨gP, 0, none⟩ = some (.pointer (some ⟨k.g, 0, none⟩)))
        (first | exact SP7.out | (refine SP.out _ ?_; (repeat (first | exact HBr.out | exact HB5.out | refine Below.drew ?_)); done))
        (first
          | (go_at_call 87; refine (F87.out _ (by repeat (first | exact HBr.out | refine Below.drew ?_))).mono ?_; rintro r w5 ⟨rfl, hb5⟩; have HB5 := Lib.hid (show Below wr.heap.size wr w5 from (HBr.out.drew).trans hb5); clear hb5)
          | (go_at_call 121; refine (PUT.out _ (by repeat (first | exact HB5.out | refine Below.drew ?_))).mono ?_; rintro r w7 ⟨⟨vr, rfl⟩, HT7⟩; have SP7 := Lib.hid (show w7.cell? ⟨gP, 0, none⟩ = some (.pointer (some ⟨k.g, 0, none⟩)) by rw [HT7.out.cP.cell]; rfl)))
      all_goals
        go_wp2_with fail
        go_roundw
        case rel => exact ⟨j + 1, by omega, by go_num, Lib.hid (HT7.out.congr HNEXT.out)⟩
        case measure => simp [intOf]; omega
    · obtain rfl : n = j := by omega
      have hTS := HT.out.congr (show TabEq n (tabF t (edsR t) n) (tabS t (edsR t) 1 0 0) by
        rw [HN.out.2.1]; exact tabF_all t (edsR t) (by rw [← HN.out.2.1]; exact hn7))
      have HTS := Lib.hid hTS
      have hP2 : 2 ≤ P := by
        rw [HN.out.2.2.2]
        exact Nat.pow_le_pow_right (n := 2) (by omega) (show 1 ≤ n from hn1)
      have hP3 : P ≤ 128 := by rw [HN.out.2.2.2]; exact pow_le128 hn7
      obtain ⟨wo, rfl⟩ : ∃ W, W = wr := ⟨_, rfl⟩
      clear hTS HT hlt hj
      go_wp2_with fail
      go_loopw [7] (fun v wr => ∃ S : Nat, 1 ≤ S ∧ S ≤ P ∧ v = .int .i64 S ∧ Hid (TabAt w wr k n m gN gP gO gA m (tabS t (edsR t) S 0 0))) (fun v _ => P - (intOf v).toNat)
      case atStart => exact ⟨1, Nat.le_refl _, by omega, rfl, HTS⟩
      case round =>
        obtain ⟨S, hS1, hS2, rfl, HT⟩ := hrel
        have n0 := HT.out.cN.cell 0
        have o0 := HT.out.cO.cell 0
        simp at n0 o0
        by_cases hSlt : S < P
        · have hS128 : S < 128 := by omega
          obtain ⟨wo2, rfl⟩ : ∃ W, W = wr := ⟨_, rfl⟩
          go_wp2_with fail
          clear n0 o0
          go_loopw [41] (fun v wr => ∃ q : Nat, q ≤ n ∧ v = .int .i64 q ∧ Hid (TabAt w wr k n m gN gP gO gA m (tabS t (edsR t) S q 0))) (fun v _ => n - (intOf v).toNat)
          case atStart => exact ⟨0, Nat.zero_le _, rfl, HT⟩
          case round =>
            obtain ⟨q, hq, rfl, HTq⟩ := hrel
            by_cases hqlt : q < n
            · have hSn2 : S < 2 ^ n := by rw [← HN.out.2.2.2]; exact hSlt
              have halt := at_lt hSn2 hqlt
              rw [← HN.out.2.2.1] at halt
              obtain ⟨a, ha⟩ : ∃ a, a = S * n + q := ⟨_, rfl⟩
              have haI : (S : Int) * (n : Int) + (q : Int) = (a : Int) := by rw [ha]; push_cast; rfl
              have hSn : S * n ≤ 1000 := by omega
              have hsn0 : (0 : Int) ≤ (S : Int) * (n : Int) := by rw [← Int.natCast_mul]; omega
              have hsn1 : (S : Int) * (n : Int) ≤ 1000 := by rw [← Int.natCast_mul]; omega
              have aw : IntKind.i64.wrap ((S : Int) * (n : Int) + (q : Int)) = (a : Int) := by rw [haI, IntKind.wrap_i64]; omega
              obtain ⟨v, hv⟩ : ∃ v, v = leaT t (edsR t) S q := ⟨_, rfl⟩
              have hvb := HLD.out S q
              rw [← hv] at hvb
              have ae : wr.cell? ⟨gA, a, none⟩ = some (.int .i64 v) := by
                rw [HTq.out.row.cellAt a (by omega), ha, tabW_get _ hSn2 hqlt, tabS_read t (edsR t) hS1 0 q, ← hv]
              have n0 := HTq.out.cN.cell 0
              have o0 := HTq.out.cO.cell 0
              simp at n0 o0
              have a0 : (0 : Int) ≤ (a : Int) := by omega
              have a1 : (a : Int) < (m : Int) := by omega
              have am : a < m := by omega
              have HV := Lib.hid hv
              have HSN := Lib.hid hSn2
              clear ha hv hSn halt hSn2
              by_cases hx : 0 ≤ v
              · have t1 : decide (0 ≤ v) = true := by simpa using hx
                obtain ⟨wo3, rfl⟩ : ∃ W, W = wr := ⟨_, rfl⟩
                go_wp2_with fail
                clear n0 o0 ae haI aw t1
                go_loopw [55] (fun u wr => ∃ i : Nat, i ≤ n ∧ u = .int .i64 i ∧ Hid (TabAt w wr k n m gN gP gO gA m (tabS t (edsR t) S q i))) (fun u _ => n - (intOf u).toNat)
                case atStart => exact ⟨0, Nat.zero_le _, rfl, HTq⟩
                case round =>
                  obtain ⟨i, hi, rfl, HTi⟩ := hrel
                  by_cases hilt : i < n
                  · cases hb : bitB S i
                    · have ba := bit_nil hS128 hb
                      have HBIT := Lib.hid hb
                      obtain ⟨pi, hpi⟩ : ∃ p, p = 2 ^ i := ⟨_, rfl⟩
                      obtain ⟨Z, hZ⟩ : ∃ z, z = S + pi := ⟨_, rfl⟩
                      have si : IntKind.i64.wrap ((2 : Int) ^ i) = (pi : Int) := shl_one (by omega) hpi
                      have hor : bits .or .i64 (S : Int) (pi : Int) = (Z : Int) := by rw [hZ, hpi]; exact or_bit S hS128 i (by omega) hb
                      obtain ⟨s, hs⟩ : ∃ s, s = nextS t (edsR t) i q v := ⟨_, rfl⟩
                      have hse : s.edition = (i : Int) := by rw [hs]; rfl
                      have F88 := Lib.hid (show ∀ W', Below wr.heap.size wr W' → Calls Try.prog 88 #[.pointer (some ⟨k.g, 0, none⟩), .int .i64 i, .int .i64 q, .int .i64 v] W' fun r w' => r = .returned (.agg #[.int .i64 i, .int .i64 s.plates, .int .i64 s.beg, .int .i64 s.fin]) ∧ Below W'.heap.size W' w' from fun W' hb' => by
                        have := HNX.out i q v hilt hqlt hx (by omega) W' (HTi.out.b.trans (hb'.mono HTi.out.b.size))
                        rw [← hs] at this
                        unfold slV at this
                        rw [hse] at this
                        exact this)
                      have hZn : Z < 2 ^ n := by
                        rw [hZ, hpi]
                        exact bit_room n (by omega) S hS128 i (by omega) HSN.out hilt hb
                      have hPUT := fun W' (hb' : Below wr.heap.size wr W') => put_w t x k B w HC.out HW.out n m gN gP gO gA m HN.out.1 HN.out.2.2.1 hneA _ Z i s W' (HTi.out.below hb') hZn hilt hse
                      have PUT := Lib.hid hPUT
                      have HNEXT := Lib.hid (show TabEq n (updF (tabS t (edsR t) S q i) Z i (putV (edsR t) (tabS t (edsR t) S q i Z i) s)) (tabS t (edsR t) S q (i + 1)) from by
                        rw [hZ, hpi, hs, HV.out, HN.out.2.1]
                        exact tabS_push t (edsR t) (by rw [← HN.out.2.1]; exact hn7) hS1 (by rw [← HN.out.2.1]; exact HSN.out) (by rw [← HN.out.2.1]; exact hilt) hb (by rw [← HV.out]; exact hx))
                      have HBr := Lib.hid (Below.refl wr.heap.size wr)
                      have SP := Lib.hid (show ∀ W', Below wr.heap.size wr W' → W'.cell? ⟨gP, 0, none⟩ = some (.pointer (some ⟨k.g, 0, none⟩)) from fun W' hb => by rw [(HTi.out.below hb).cP.cell]; rfl)
                      have n0 := HTi.out.cN.cell 0
                      simp at n0
                      clear hpi hZ hs hse hPUT hb
                      go_upto_region 21 with fail
                      clear n0
                      go_region_held3 (fun W' => W'.cell? ⟨gP, 0, none⟩ = some (.pointer (some ⟨k.g, 0, none⟩)))
                        (first | exact SP7.out | (refine SP.out _ ?_; (repeat (first | exact HBr.out | exact HB5.out | refine Below.drew ?_)); done))
                        (first
                          | (go_at_call 88; refine (F88.out _ (by repeat (first | exact HBr.out | refine Below.drew ?_))).mono ?_; rintro r w5 ⟨rfl, hb5⟩; have HB5 := Lib.hid (show Below wr.heap.size wr w5 from (HBr.out.drew).trans hb5); clear hb5)
                          | (go_at_call 121; refine (PUT.out _ (by repeat (first | exact HB5.out | refine Below.drew ?_))).mono ?_; rintro r w7 ⟨⟨vr, rfl⟩, HT7⟩; have SP7 := Lib.hid (show w7.cell? ⟨gP, 0, none⟩ = some (.pointer (some ⟨k.g, 0, none⟩)) by rw [HT7.out.cP.cell]; rfl)))
                      all_goals
                        go_wp2_with fail
                        go_roundw
                        case rel => exact ⟨i + 1, by omega, by go_num, Lib.hid (HT7.out.congr HNEXT.out)⟩
                        case measure => simp [intOf]; omega
                    · have ba := bit_one hS128 hb
                      have HBIT := Lib.hid hb
                      have n0 := HTi.out.cN.cell 0
                      simp at n0
                      clear hb
                      go_wp2_with fail
                      go_roundw
                      case rel => exact ⟨i + 1, by omega, by go_num, Lib.hid (HTi.out.congr (by
                        rw [HN.out.2.1]
                        exact tabS_in t (edsR t) (by rw [← HN.out.2.1]; exact hn7) (by rw [← HN.out.2.1]; exact HSN.out) (by rw [← HN.out.2.1]; exact hilt) HBIT.out))⟩
                      case measure => simp [intOf]; omega
                  · obtain rfl : n = i := by omega
                    go_wp2_with fail
                    go_roundw
                    case rel => exact ⟨q + 1, by omega, by go_num, Lib.hid (HTi.out.congr (by rw [HN.out.2.1]; exact tabS_last t (edsR t)))⟩
                    case measure => simp [intOf]; omega
              · have t1 : decide (0 ≤ v) = false := by simpa using hx
                go_wp2_with fail
                go_roundw
                case rel => exact ⟨q + 1, by omega, by go_num, Lib.hid (HTq.out.congr (by rw [HN.out.2.1]; exact tabS_none t (edsR t) (by rw [← HV.out]; omega)))⟩
                case measure => simp [intOf]; omega
            · obtain rfl : n = q := by omega
              go_wp2_with fail
              go_roundw
              case rel => exact ⟨S + 1, by omega, by omega, by go_num, Lib.hid (HTq.out.congr (by rw [HN.out.2.1]; exact tabS_set t (edsR t)))⟩
              case measure => simp [intOf]; omega
        · obtain rfl : P = S := by omega
          have o1 := HT.out.cO.cell 0
          go_wp2_with fail
          go_ret
          have hall := HT.out.congr (show TabEq n (tabS t (edsR t) P 0 0) (leaT t (edsR t)) by rw [HN.out.2.2.2, HN.out.2.1]; exact tabS_all t (edsR t))
          exact ⟨gA, m, rfl, hall.row, hall.b⟩
end Go.Proofs.Ytokdleanpkkdpaa
