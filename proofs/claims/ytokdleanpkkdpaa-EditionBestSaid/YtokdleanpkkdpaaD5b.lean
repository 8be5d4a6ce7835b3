/- What a right title knows; bounds of editions; conditions: none. -/
import Derived.Test.YtokdleanpkkdpaaD4
import Derived.Deep.AppendLies
import Derived.Deep.Draws
set_option linter.unusedSimpArgs false
set_option linter.unusedVariables false
namespace Go.Ed
/-- the editions with the one of a zone among them -/
def preZ (es : List EdD) (z : ZonD) : List EdD := if es.any (fun e => e.variants == z.variants) then es else es ++ [⟨[], 0, 0, 86400, z.variants⟩]
/-- an edition with a zone more -/
def updZ (e : EdD) (i : Int) (z : ZonD) : EdD := ⟨e.zones ++ [i], e.copies + z.copies, e.ready, min e.due z.due, e.variants⟩
theorem map_one (f : EdD → EdD) (v : List Int) : ∀ (es : List EdD) (n : Nat) (h : n < es.length), (es.map EdD.variants).Nodup → es[n].variants = v → (es.map fun e => if e.variants == v then f e else e) = es.set n (f es[n])
  | [], n, h, _, _ => by simp at h
  | e :: es, 0, h, hn, hv => by
    simp only [List.getElem_cons_zero] at hv
    simp only [List.map_cons, List.set_cons_zero, List.getElem_cons_zero, hv, beq_self_eq_true, if_true]
    congr 1
    have : ∀ x ∈ es, (if x.variants == v then f x else x) = x := by
      intro x hx
      rw [if_neg]
      intro h
      rw [List.map_cons, List.nodup_cons] at hn
      exact hn.1 (by rw [hv]; exact List.mem_map.2 ⟨x, hx, by simpa using h⟩)
    rw [List.map_congr_left this]; simp
  | e :: es, n + 1, h, hn, hv => by
    rw [List.map_cons, List.nodup_cons] at hn
    have h' : n < es.length := by simpa using h
    have ih := map_one f v es n h' hn.2 (by simpa using hv)
    simp only [List.map_cons, List.set_cons_succ, List.getElem_cons_succ, ih]
    congr 1
    rw [if_neg]
    intro q
    have q' : e.variants = v := by simpa using q
    exact hn.1 (by rw [q', ← hv]; exact List.mem_map.2 ⟨es[n], List.getElem_mem h', by simp⟩)
theorem addZ_at {es : List EdD} (hn : (es.map EdD.variants).Nodup) {i : Int} {z : ZonD} (hc : z.copies ≠ 0) {n : Nat} (h : n < (preZ es z).length) (hv : (preZ es z)[n].variants = z.variants) : addZ es i z = (preZ es z).set n (updZ (preZ es z)[n] i z) := by
  unfold addZ
  rw [if_neg hc]
  by_cases ha : (es.any fun e => e.variants == z.variants) = true
  · have hp : preZ es z = es := by unfold preZ; rw [if_pos ha]
    rw [if_pos ha]
    simp only [hp] at h hv ⊢
    exact map_one (fun e => updZ e i z) z.variants es n h hn hv
  · have hp : preZ es z = es ++ [⟨[], 0, 0, 86400, z.variants⟩] := by unfold preZ; rw [if_neg ha]
    rw [if_neg ha]
    simp only [hp] at h hv ⊢
    have hnn : n = es.length := by
      rcases Nat.lt_or_ge n es.length with q | q
      · exfalso
        rw [List.getElem_append_left q] at hv
        exact ha (List.any_eq_true.2 ⟨es[n], List.getElem_mem q, by simp [hv]⟩)
      · simp at h; omega
    subst hnn
    simp [updZ]
theorem preZ_any {es : List EdD} {z : ZonD} (h : z.variants ∈ es.map EdD.variants) : preZ es z = es := by
  unfold preZ
  rw [if_pos]
  obtain ⟨e, he, q⟩ := List.mem_map.1 h
  exact List.any_eq_true.2 ⟨e, he, by simp [q]⟩
theorem preZ_none {es : List EdD} {z : ZonD} (h : z.variants ∉ es.map EdD.variants) : preZ es z = es ++ [⟨[], 0, 0, 86400, z.variants⟩] := by
  unfold preZ
  rw [if_neg]
  intro ha
  obtain ⟨e, he, q⟩ := List.any_eq_true.1 ha
  exact h (List.mem_map.2 ⟨e, he, by simpa using q⟩)
open Go.Fh
/-- a map of indices -/
def Idx (m : List (ArrK 64 × Int)) (ks : List (List Int)) : Prop := m.map (·.1.1) = ks ∧ ∀ j (h : j < m.length), m[j].2 = (j : Int)
theorem mget_some {κ ν : Type} [DecidableEq κ] : ∀ (m : List (κ × ν)) (x : κ) (v : ν), mget m x = some v → ∃ n, ∃ h : n < m.length, m[n].1 = x ∧ m[n].2 = v
  | [], x, v, h => by simp [mget] at h
  | p :: m, x, v, h => by
    by_cases q : x = p.1
    · simp only [mget, if_pos q] at h
      exact ⟨0, by simp, q.symm, by simpa using h⟩
    · simp only [mget, if_neg q] at h
      obtain ⟨n, hn, h1, h2⟩ := mget_some m x v h
      exact ⟨n + 1, by simpa using hn, by simpa using h1, by simpa using h2⟩
theorem Idx.len {m : List (ArrK 64 × Int)} {ks : List (List Int)} (h : Idx m ks) : m.length = ks.length := by rw [← h.1]; simp
theorem Idx.found {m : List (ArrK 64 × Int)} {ks : List (List Int)} (h : Idx m ks) {x : ArrK 64} {v : Int} (hg : mget m x = some v) : ∃ n, ∃ hn : n < ks.length, v = (n : Int) ∧ ks[n] = x.1 := by
  obtain ⟨n, hn, h1, h2⟩ := mget_some m x v hg
  refine ⟨n, by rw [← h.len]; exact hn, by rw [← h2, h.2 n hn], ?_⟩
  have : ks[n]'(by rw [← h.len]; exact hn) = (m.map (·.1.1))[n]'(by simpa using hn) := by simp only [h.1]
  rw [this, List.getElem_map, h1]
theorem Idx.more {m : List (ArrK 64 × Int)} {ks : List (List Int)} (h : Idx m ks) {x : ArrK 64} (hg : mget m x = none) : Idx (mset m x (ks.length : Int)) (ks ++ [x.1]) := by
  have hm : mset m x (ks.length : Int) = m ++ [(x, (ks.length : Int))] := by
    clear h
    generalize (ks.length : Int) = v
    induction m with
    | nil => rfl
    | cons p m ih =>
      by_cases q : x = p.1
      · simp [mget, q] at hg
      · simp only [mget, if_neg q] at hg
        simp only [mset, if_neg q, ih hg, List.cons_append]
  rw [hm]
  refine ⟨by simp [h.1], fun j hj => ?_⟩
  by_cases q : j < m.length
  · rw [List.getElem_append_left q, h.2 j q]
  · have : j = m.length := by simp at hj; omega
    subst this
    simp [h.len]
end Go.Ed
namespace Go.Proofs.Ytokdleanpkkdpaa
open Go.RowKit Go.Fh Go.Ed
theorem zero3 : ∀ w, (zeroValue 3).run Try.prog w = .ok (.int .i64 0) w := fun w => by kernel_rfl
theorem infoEd : (Try.prog.info? 52).map (fun i => (i.zero, i.size, i.bytes)) = some (some (.agg #[.slice none 0 0, .int .i64 0, .int .i64 0, .int .i64 0, .slice none 0 0]), 5, 72) := by kernel_rfl
end Go.Proofs.Ytokdleanpkkdpaa
namespace Go.Ed
open Go.Fh Go.RowKit Go.Proofs.Ytokdleanpkkdpaa
structure ChkOk (t : TitD) : Prop where
  ok : OkT t
  c0 : 1 ≤ t.colours.length
  z0 : 1 ≤ t.zones.length
  z1 : t.zones.length ≤ 12
  r1 : t.ready.length ≤ 300
  ez : ∀ k, k < t.zones.length → errZ t (t.zones.getD k ⟨0, 0, []⟩) = 0
  er : ∀ k, k < t.ready.length → errR t k = 0
  n0 : 1 ≤ (edsN t t.zones.length).length
  n1 : (edsN t t.zones.length).length ≤ 7
theorem chk_ok {t : TitD} (h : checkT t = 0) : ChkOk t := by
  unfold checkT at h
  split at h
  · cases h
  · rename_i h1
    split at h
    · cases h
    · rename_i h2
      split at h
      · cases h
      · rename_i h3
        split at h
        · rename_i h4; exact absurd h h4
        · rename_i h4
          split at h
          · rename_i h5; exact absurd h h5
          · rename_i h5
            split at h
            · cases h
            · rename_i h6
              split at h
              · cases h
              · rename_i h7
                simp only [Bool.or_eq_true, not_or, Bool.not_eq_true, Bool.not_eq_false', decide_eq_false_iff_not, Nat.not_lt] at h1 h2 h3
                have a1 := inB_iff.1 h1.1
                have a2 := inB_iff.1 h1.2.1
                have b1 := inB_iff.1 h2.1
                have b2 := inB_iff.1 h2.2.1
                have b3 := inB_iff.1 h2.2.2.1
                have b4 := inB_iff.1 h2.2.2.2
                have hcol : ∀ c ∈ t.colours, 1 ≤ c ∧ c ≤ 4 := by
                  intro c hc
                  refine inB_iff.1 ?_
                  cases hb : inB c 1 4
                  · have := List.any_eq_false.1 h3.1 c hc
                    simp [hb] at this
                  · rfl
                refine ⟨⟨by omega, hcol, b1.1, b1.2, b2.1, b2.2, b3.1, b3.2, b4.1, b4.2, h3.2⟩, by omega, by omega, by omega, by omega, ?_, ?_, by omega, by omega⟩
                · intro k hk
                  exact firstErr_zero (by omega : firstErr (fun k => errZ t (t.zones.getD k ⟨0, 0, []⟩)) t.zones.length = 0) k hk
                · intro k hk
                  exact firstErr_zero (by omega : firstErr (errR t) t.ready.length = 0) k hk
theorem addZ_step {P Q : EdD → Prop} {es : List EdD} {i : Int} {z : ZonD} (h : ∀ e ∈ es, P e) (hp : ∀ e, P e → Q e) (hn : z.copies ≠ 0 → Q ⟨[i], z.copies, 0, min 86400 z.due, z.variants⟩)
    (hm : ∀ e, P e → e.variants = z.variants → Q ⟨e.zones ++ [i], e.copies + z.copies, e.ready, min e.due z.due, e.variants⟩) : ∀ e ∈ addZ es i z, Q e := by
  unfold addZ
  split
  · exact fun e he => hp e (h e he)
  · rename_i h0
    split
    · intro e he
      obtain ⟨e', he', rfl⟩ := List.mem_map.1 he
      by_cases hv : e'.variants = z.variants
      · rw [if_pos (by simpa using hv)]; exact hm e' (h e' he') hv
      · rw [if_neg (by simpa using hv)]; exact hp e' (h e' he')
    · intro e he
      rcases List.mem_append.1 he with he | he
      · exact hp e (h e he)
      · simp at he; subst he; exact hn h0
/-- what an edition of so many zones keeps to -/
structure EdB (t : TitD) (k : Nat) (e : EdD) : Prop where
  c0 : 1 ≤ e.copies
  c1 : e.copies ≤ 1000000 * (k : Int)
  d0 : 0 ≤ e.due
  d1 : e.due ≤ 86400
  r : e.ready = 0
  zn : e.zones.length ≤ k
  z1 : 1 ≤ e.zones.length
  zz : ∀ z ∈ e.zones, 0 ≤ z ∧ z < (k : Int)
  vn : e.variants.length = t.colours.length
  vv : ∀ v ∈ e.variants, 0 ≤ v ∧ v ≤ 9
theorem edsN_bd {t : TitD} (h : ChkOk t) : ∀ k, k ≤ t.zones.length → ∀ e ∈ edsN t k, EdB t k e := by
  intro k
  induction k with
  | zero => intro _ e he; simp [edsN] at he
  | succ k ih =>
    intro hk
    have hz := errZ_ok (h.ez k (by omega))
    refine addZ_step (P := EdB t k) (Q := EdB t (k + 1)) (ih (by omega)) ?_ ?_ ?_
    · intro e b
      exact ⟨b.c0, by have := b.c1; omega, b.d0, b.d1, b.r, by have := b.zn; omega, b.z1, fun z hz => by have := b.zz z hz; omega, b.vn, b.vv⟩
    · intro hc
      exact ⟨by show 1 ≤ (t.zones.getD k ⟨0, 0, []⟩).copies; omega, by show (t.zones.getD k ⟨0, 0, []⟩).copies ≤ _; omega, by show 0 ≤ min 86400 (t.zones.getD k ⟨0, 0, []⟩).due; omega, by show min 86400 (t.zones.getD k ⟨0, 0, []⟩).due ≤ _; omega, rfl, by simp, by simp, by simp; omega, hz.2.2.1, hz.2.2.2⟩
    · intro e b hv
      refine ⟨by have := b.c0; show 1 ≤ e.copies + _; omega, by have := b.c1; show e.copies + _ ≤ _; omega, by have := b.d0; show 0 ≤ min e.due _; omega, by have := b.d1; show min e.due _ ≤ _; omega, b.r, by have := b.zn; simp; omega, by simp, ?_, b.vn, b.vv⟩
      intro z hz
      simp only [List.mem_append, List.mem_singleton] at hz
      rcases hz with hz | rfl
      · have := b.zz z hz; omega
      · omega
/-- an edition with its second -/
def withR (t : TitD) (e : EdM) : EdM := (⟨e.1.zones, e.1.copies, readyN t.ready e.1.variants t.ready.length, e.1.due, e.1.variants⟩, e.2)
def rdyL (t : TitD) (es : List EdM) (k : Nat) : List EdM := (es.take k).map (withR t) ++ es.drop k
theorem rdyL_len (t : TitD) (es : List EdM) (k : Nat) : (rdyL t es k).length = es.length := by simp [rdyL]; omega
theorem rdyL_get {t : TitD} {es : List EdM} {k : Nat} (h : k < es.length) : (rdyL t es k)[k]'(by rw [rdyL_len]; exact h) = es[k] := by
  unfold rdyL
  rw [List.getElem_append_right (by simp; omega)]
  simp only [List.getElem_drop]
  congr 1
  simp; omega
theorem rdyL_succ {t : TitD} {es : List EdM} {k : Nat} (h : k < es.length) : rdyL t es (k + 1) = (rdyL t es k).set k (withR t es[k]) := by
  unfold rdyL
  rw [List.take_succ_eq_append_getElem h, List.map_append, List.append_assoc, List.set_append_right _ _ (by simp; omega)]
  simp [show k - min k es.length = 0 by omega]
  rw [List.drop_eq_getElem_cons h]; rfl
theorem rdyL_all (t : TitD) (es : List EdM) : rdyL t es es.length = es.map (withR t) := by simp [rdyL]
theorem withR_eds {t : TitD} {es : List EdM} (h : es.map (·.1) = edsN t t.zones.length) : (es.map (withR t)).map (·.1) = edsR t := by
  unfold edsR
  rw [← h, List.map_map, List.map_map]; rfl
/-- a title at work in memory: its editions, its rows of changes -/
structure Wk where
  es : List EdM
  rows : List (Option Go.Addr × Nat)
  E : Option Go.Addr
  cE : Nat
  C : Option Go.Addr
  cC : Nat
  g : Nat
structure WorkAt (w : Go.World) (B : Nat) (t : TitD) (x : TA) (k : Wk) : Prop where
  eds : k.es.map (·.1) = edsR t
  ed : EdsAt w B (.slice k.E k.es.length k.cE) k.es
  hk : Blk w k.g 129 (workV t x k.E k.es.length k.cE k.C k.cC (allB t))
  hg : B ≤ k.g
  hrl : k.rows.length = k.es.length
  oC : w.ownsRow B 22 1 (.slice k.C k.rows.length k.cC) k.rows.length (k.rows.flatMap (encRow k.es.length))
  oR : ∀ i (h : i < k.rows.length), w.ownsRow B 3 1 (.slice k.rows[i].1 (chgL t (k.es.map (·.1)) i).length k.rows[i].2) (chgL t (k.es.map (·.1)) i).length ((chgL t (k.es.map (·.1)) i).map (Go.Value.int .i64))
theorem flat_int (l : List Int) : l.flatMap encInt = l.map (Go.Value.int .i64) := by
  induction l with
  | nil => rfl
  | cons x l ih => rw [List.flatMap_cons, ih]; rfl
theorem own_sl {w : Go.World} {B : Nat} {A : Option Go.Addr} {c : Nat} {l : List Int} (h : w.ownsRow B 3 1 (.slice A l.length c) l.length (l.map (Go.Value.int .i64))) : Sl encInt 1 w w.heap.size A l :=
  Sl.of_own (base := B) (e := 3) (c := c) (fun _ => rfl) (by rw [flat_int]; exact h)
theorem WorkAt.hC {w : Go.World} {B : Nat} {t : TitD} {x : TA} {k : Wk} (h : WorkAt w B t x k) : Sl (encRow k.es.length) 1 w w.heap.size k.C k.rows := Sl.of_own (fun _ => rfl) h.oC
theorem WorkAt.hR {w : Go.World} {B : Nat} {t : TitD} {x : TA} {k : Wk} (h : WorkAt w B t x k) (i : Nat) (hi : i < k.rows.length) : Sl encInt 1 w w.heap.size k.rows[i].1 (chgL t (k.es.map (·.1)) i) := own_sl (h.oR i hi)
end Go.Ed
