/-
  The law ReelCopies of chapter 6: Check, Reach, Splices, Thrown, Run and Used return what the reference returns, for any press and numbers, and nothing is turned; no conditions.
-/
import Derived.Test.YtnbnfadmbggfnaaRows
import Derived.WalkKit
import Derived.ProofKit
import Derived.OpenShut
import Derived.ShutString
import Derived.ChangeOld
import Derived.Below
import Derived.Test.YtnbnfadmbggfnaaOpn2
import Derived.Test.YtnbnfadmbggfnaaUK
import Derived.Test.YtnbnfadmbggfnaaCF
set_option linter.unusedSimpArgs false
namespace Go.Fh.Opn
open Go.Joins Go.ChangeShapes Go.WideShapes Go.RowKit Go.Deep Go.Rl
section
variable {H : Type} {enc : TypeId × Value → H} {P : Program} {w : World} {base : Nat} {spare : Nat → Bool} {held : Bool}
theorem open_agg3 {r : Reach} {b0 : Nat} {t : TypeId} {f0 f1 f2 : Field} {v : Value} {d : DataW H} {p : List MemPlace} (hs : P.underlying t = some (.struct #[f0, f1, f2])) (hone : oneCellFields P #[f0, f1, f2] = true) (hC : P.cellsOf t = 3)
    (hv : Value.okWide P w r b0 t v) (h : DataW.Trod enc P w base spare held t v d p) :
    ∃ (v0 v1 v2 : Value) (y0 y1 y2 : DataW H × List MemPlace) (n : Nat), v = .agg #[v0, v1, v2] ∧
      DataW.trod enc P w base spare held n f0.type [v0] = some y0 ∧ DataW.trod enc P w base spare held n f1.type [v1] = some y1 ∧ DataW.trod enc P w base spare held n f2.type [v2] = some y2 := by
  obtain ⟨cs, rfl, hsz⟩ := okWide_struct hs hv
  obtain ⟨l⟩ := cs
  match l, hsz.trans hC with
  | [c0, c1, c2], _ =>
    obtain ⟨fuel, hf⟩ := h
    obtain ⟨xs, n, _, hx, _, hlen, hg⟩ := DataW.trod_struct hs hf
    obtain ⟨o0, k0⟩ := hone_of hone 0 f0 rfl
    obtain ⟨o1, k1⟩ := hone_of hone 1 f1 rfl
    obtain ⟨o2, k2⟩ := hone_of hone 2 f2 rfl
    match xs, hlen with
    | [y0, y1, y2], _ =>
      exact ⟨c0, c1, c2, y0, y1, y2, n, rfl, by simpa [Value.cells, o0, k0] using hg 0 f0 rfl, by simpa [Value.cells, o1, k1] using hg 1 f1 rfl, by simpa [Value.cells, o2, k2] using hg 2 f2 rfl⟩
end
section
variable {H : Type} {enc : TypeId × Value → H} {P : Program} {W : World}
theorem trod_one {t : TypeId} {v : Value} {n : Nat} {y : DataW H × List MemPlace} (h : DataW.trod enc P W 0 (fun _ => true) true n t [v] = some y) (hv : v.cells = #[v] := by rfl) : DataW.Trod enc P W 0 (fun _ => true) true t v y.1 y.2 := ⟨n, by rw [hv]; simpa using h⟩
theorem sh_slice {t e : TypeId} {n : Nat} {v : Value} {y : DataW H × List MemPlace} (ht : P.underlying t = some (.slice e)) (h : DataW.trod enc P W 0 (fun _ => true) true n t [v] = some y) : ∃ a l c, v = .slice a l c := by
  rcases open_slice ht h with ⟨h0, _⟩ | ⟨a, len, cap, m, n', D, Pl, hcs, _⟩
  · simp at h0; exact ⟨_, _, _, h0⟩
  · simp at hcs; exact ⟨_, _, _, hcs⟩
theorem sl_reels {t e ti : TypeId} {f0 f1 f2 f3 : Field} {a : Option Addr} {len cap : Nat} {d : DataW H} {p : List MemPlace} (ht : P.underlying t = some (.slice e)) (he : P.underlying e = some (.struct #[f0, f1, f2, f3])) (h0 : f0.type = ti) (h1 : f1.type = ti) (h2 : f2.type = ti) (h3 : f3.type = ti) (hti : P.underlying ti = some (.int .i64))
    (hone : oneCellFields P #[f0, f1, f2, f3] = true) (hC : P.cellsOf e = 4)
    (h : DataW.Trod enc P W 0 (fun _ => true) true t (.slice a len cap) d p) : ∃ l : List ReelD, l.length = len ∧ Sl encReel 4 W W.heap.size a l := by
  obtain ⟨fuel, hf⟩ := h
  rcases open_slice_fields ht he hone hC hf with ⟨hcs, _⟩ | ⟨x, l, c, m, D, Pl, hcs, _, hl, hm, hmm, _, hi⟩
  · simp [Value.cells] at hcs
    obtain ⟨rfl, rfl, rfl⟩ := hcs
    exact ⟨[], rfl, Sl.nil⟩
  · simp [Value.cells] at hcs
    obtain ⟨rfl, rfl, rfl⟩ := hcs
    simp at hmm
    subst hmm
    have key : ∀ i, ∃ q : ReelD, i < len → W.cell? (x.add (i * 4)) = some (.int .i64 q.id) ∧ W.cell? (x.add (i * 4 + 1)) = some (.int .i64 q.width) ∧ W.cell? (x.add (i * 4 + 2)) = some (.int .i64 q.len) ∧ W.cell? (x.add (i * 4 + 3)) = some (.int .i64 q.core) := by
      intro i
      by_cases him : i < len
      · obtain ⟨ys, n, _, _, _, hj⟩ := hi i (by omega)
        obtain ⟨v0, y0, hc0, _, t0⟩ := hj 0 f0 rfl
        obtain ⟨v1, y1, hc1, _, t1⟩ := hj 1 f1 rfl
        obtain ⟨v2, y2, hc2, _, t2⟩ := hj 2 f2 rfl
        obtain ⟨v3, y3, hc3, _, t3⟩ := hj 3 f3 rfl
        obtain ⟨n0, e0, _, w0⟩ := DataW.trod_int (h0 ▸ hti) t0
        obtain ⟨n1, e1, _, w1⟩ := DataW.trod_int (h1 ▸ hti) t1
        obtain ⟨n2, e2, _, w2⟩ := DataW.trod_int (h2 ▸ hti) t2
        obtain ⟨n3, e3, _, w3⟩ := DataW.trod_int (h3 ▸ hti) t3
        simp at e0 e1 e2 e3
        subst e0; subst e1; subst e2; subst e3
        exact ⟨⟨n0, n1, n2, n3⟩, fun _ => ⟨by simpa using hc0, by simpa using hc1, by simpa using hc2, by simpa using hc3⟩⟩
      · exact ⟨⟨0, 0, 0, 0⟩, fun h' => absurd h' him⟩
    obtain ⟨g, hg⟩ := Classical.axiomOfChoice key
    refine ⟨(List.range len).map g, by simp, sl_of_cells (fun _ => rfl) (by decide) ?_⟩
    intro k y hy j u hu
    have hk : k < len := by
      have := (List.getElem?_eq_some_iff.1 hy).1
      simpa using this
    have hyg : y = g k := by
      rw [List.getElem?_map, List.getElem?_range hk] at hy
      simpa using hy.symm
    subst hyg
    obtain ⟨c0, c1, c2, c3⟩ := hg k hk
    match j, hu with
    | 0, hu => simp [encReel] at hu; subst hu; simpa using c0
    | 1, hu => simp [encReel] at hu; subst hu; simpa using c1
    | 2, hu => simp [encReel] at hu; subst hu; simpa using c2
    | 3, hu => simp [encReel] at hu; subst hu; simpa using c3
theorem sl_webs {t e ti ts er : TypeId} {f0 f1 f2 f3 r0 r1 r2 r3 : Field} {a : Option Addr} {len cap : Nat} {d : DataW H} {p : List MemPlace} (ht : P.underlying t = some (.slice e)) (he : P.underlying e = some (.struct #[f0, f1, f2, f3])) (h0 : f0.type = ts) (h1 : f1.type = ti) (h2 : f2.type = ti) (h3 : f3.type = ti) (hti : P.underlying ti = some (.int .i64)) (hts : P.underlying ts = some (.slice er))
    (her : P.underlying er = some (.struct #[r0, r1, r2, r3])) (k0 : r0.type = ti) (k1 : r1.type = ti) (k2 : r2.type = ti) (k3 : r3.type = ti) (hone' : oneCellFields P #[r0, r1, r2, r3] = true) (hC' : P.cellsOf er = 4)
    (hone : oneCellFields P #[f0, f1, f2, f3] = true) (hC : P.cellsOf e = 4)
    (h : DataW.Trod enc P W 0 (fun _ => true) true t (.slice a len cap) d p) : ∃ l : List WebM, l.length = len ∧ len ≤ maxLen ∧ Sl encWeb 4 W W.heap.size a l ∧ ∀ y ∈ l, Sl encReel 4 W W.heap.size y.2.1 y.1.reels := by
  obtain ⟨fuel, hf⟩ := h
  rcases open_slice_fields ht he hone hC hf with ⟨hcs, _⟩ | ⟨x, l, c, m, D, Pl, hcs, _, hl, hm, hmm, _, hi⟩
  · simp [Value.cells] at hcs
    obtain ⟨rfl, rfl, rfl⟩ := hcs
    exact ⟨[], rfl, by decide, Sl.nil, by simp⟩
  · simp [Value.cells] at hcs
    obtain ⟨rfl, rfl, rfl⟩ := hcs
    simp at hmm
    subst hmm
    have key : ∀ i, ∃ q : WebM, i < len → Sl encReel 4 W W.heap.size q.2.1 q.1.reels ∧ W.cell? (x.add (i * 4)) = some (.slice q.2.1 q.1.reels.length q.2.2) ∧ W.cell? (x.add (i * 4 + 1)) = some (.int .i64 q.1.off) ∧ W.cell? (x.add (i * 4 + 2)) = some (.int .i64 q.1.bef) ∧ W.cell? (x.add (i * 4 + 3)) = some (.int .i64 q.1.aft) := by
      intro i
      by_cases him : i < len
      · obtain ⟨ys, n, _, _, _, hj⟩ := hi i (by omega)
        obtain ⟨v0, y0, hc0, _, t0⟩ := hj 0 f0 rfl
        obtain ⟨v1, y1, hc1, _, t1⟩ := hj 1 f1 rfl
        obtain ⟨v2, y2, hc2, _, t2⟩ := hj 2 f2 rfl
        obtain ⟨v3, y3, hc3, _, t3⟩ := hj 3 f3 rfl
        obtain ⟨n1, e1, _, w1⟩ := DataW.trod_int (h1 ▸ hti) t1
        obtain ⟨n2, e2, _, w2⟩ := DataW.trod_int (h2 ▸ hti) t2
        obtain ⟨n3, e3, _, w3⟩ := DataW.trod_int (h3 ▸ hti) t3
        simp at e1 e2 e3
        subst e1; subst e2; subst e3
        have t0' : DataW.trod enc P W 0 (fun _ => true) true n ts [v0] = some y0 := h0 ▸ t0
        obtain ⟨a', l', c', rfl⟩ := sh_slice hts t0'
        obtain ⟨rs, hlen, hs⟩ := sl_reels hts her k0 k1 k2 k3 hti hone' hC' (trod_one t0')
        exact ⟨(⟨rs, n1, n2, n3⟩, a', c'), fun _ => ⟨hs, by simpa [hlen] using hc0, by simpa using hc1, by simpa using hc2, by simpa using hc3⟩⟩
      · exact ⟨(⟨[], 0, 0, 0⟩, none, 0), fun h' => absurd h' him⟩
    obtain ⟨g, hg⟩ := Classical.axiomOfChoice key
    refine ⟨(List.range len).map g, by simp, Nat.le_trans hl hm, sl_of_cells (fun _ => rfl) (by decide) ?_, ?_⟩
    · intro k y hy j u hu
      have hk : k < len := by
        have := (List.getElem?_eq_some_iff.1 hy).1
        simpa using this
      have hyg : y = g k := by
        rw [List.getElem?_map, List.getElem?_range hk] at hy
        simpa using hy.symm
      subst hyg
      obtain ⟨_, c0, c1, c2, c3⟩ := hg k hk
      match j, hu with
      | 0, hu => simp [encWeb] at hu; subst hu; simpa using c0
      | 1, hu => simp [encWeb] at hu; subst hu; simpa using c1
      | 2, hu => simp [encWeb] at hu; subst hu; simpa using c2
      | 3, hu => simp [encWeb] at hu; subst hu; simpa using c3
    · intro y hy
      obtain ⟨i, hi', rfl⟩ := List.mem_map.1 hy
      exact (hg i (List.mem_range.1 hi')).1
end
end Go.Fh.Opn
namespace Go.Proofs.Ytnbnfadmbggfnaa
open Go.ChangeShapes Go.WideShapes Go.ChangeAt Go.RowKit Go.Fh Go.Fh.Opn Go.Rl
set_option linter.unusedVariables false

theorem own : ownKnob Try.prog.godebug = none := by kernel_rfl
theorem laidOut : laidOutB Try.prog = true := by kernel_rfl

set_option maxRecDepth 100000 in
set_option maxHeartbeats 2000000 in
theorem reelCopies_lifted (os : Os) (started : os.Started) (H : Type) (enc : TypeId × Value → H) :
    ReturnsInHanded {} Try.checked os 9 .any (Rows.reelCopiesSpec.pre6 enc Try.prog Try.f9 Rows.reelCopiesRow.domain false) (Rows.reelCopiesSpec.post enc Try.prog Try.f9 false true false false) := by
  refine returnsInHanded_of_change (C := Try.checked) own started (by kernel_rfl) Try.func9
    (ChangeSpec.witness6 (enc := enc) (C := Try.checked) false ⟨#[], #[.agg #[.int .i64 0, .int .i64 0, .slice none 0 0], .int .i64 0, .int .i64 0, .int .i64 0], []⟩ 9 (by kernel_rfl) (by kernel_rfl) (by kernel_rfl) (by kernel_rfl)) ?_
  intro W base args ds gs before hval0 hW hcnd _
  have hval : ∀ (j : Nat) t v, Try.f9.params[j]? = some t → args[j]? = some v → Value.okWide Try.prog W .any base t v := hval0
  have hW' := hW
  obtain ⟨p, q, hA0, hV, rfl, hfz, hnd⟩ := hW
  have hA : DataW.TrodAll enc Try.prog W 0 (fun _ => true) true Try.f9.params.toList args.toList ds p := hA0
  rw [Try.params9] at hA hval
  obtain ⟨v0, vs0, d0, ds0, p0, q0, hargs, rfl, rfl, h0, r0⟩ := trodAll_cons hA
  obtain ⟨v1, vs1, d1, ds1, p1, q1, rfl, rfl, rfl, h1, r1⟩ := trodAll_cons r0
  obtain ⟨v2, vs2, d2, ds2, p2, q2, rfl, rfl, rfl, h2, r2⟩ := trodAll_cons r1
  obtain ⟨v3, vs3, d3, ds3, p3, q3, rfl, rfl, rfl, h3, r3⟩ := trodAll_cons r2
  obtain ⟨rfl, rfl, rfl⟩ := trodAll_nil r3
  obtain rfl : args = #[v0, v1, v2, v3] := by cases args; simp_all
  obtain ⟨rfl, rfl⟩ := trodVars_none hV
  have k0 := h0
  have lt0 : ∀ x ∈ p0, x.block < W.heap.size := by obtain ⟨m, hm⟩ := k0; exact DataW.trod_lt m _ _ _ hm
  obtain ⟨u0, u1, u2, y0, y1, y2, n, rfl, t0, t1, t2⟩ := open_agg3 Try.underlying26 (by kernel_rfl) (by kernel_rfl) (hval 0 26 v0 rfl rfl) h0
  obtain ⟨z0, e0, _, _⟩ := DataW.trod_int Try.underlying3 t0
  obtain ⟨z1, e1, _, _⟩ := DataW.trod_int Try.underlying3 t1
  simp at e0 e1
  subst e0; subst e1
  obtain ⟨aa, la, ca, rfl⟩ := sh_slice Try.underlying24 t2
  obtain ⟨ms, hml, hmx, sA, sR⟩ := sl_webs Try.underlying24 Try.underlying41 rfl rfl rfl rfl Try.underlying3 Try.underlying39 Try.underlying54 rfl rfl rfl rfl (by kernel_rfl) (by kernel_rfl) (by kernel_rfl) (by kernel_rfl) (trod_one t2)
  obtain ⟨a1, rfl, rfl, rfl, w1⟩ := open_int Try.underlying3 (hval 1 3 v1 rfl rfl) h1
  obtain ⟨a2, rfl, rfl, rfl, w2⟩ := open_int Try.underlying3 (hval 2 3 v2 rfl rfl) h2
  obtain ⟨a3, rfl, rfl, rfl, w3⟩ := open_int Try.underlying3 (hval 3 3 v3 rfl rfl) h3
  have hT : PrsAt W W.heap.size ⟨z0, z1, ms.map (·.1)⟩ aa ms := ⟨sA, rfl, fun i hi => sR _ (List.getElem_mem hi)⟩
  have hn : a2 ≤ 9223372036854775807 := by
    have := w2
    simp only [Lit.wf, Bool.and_eq_true, decide_eq_true_eq] at this
    rw [show IntKind.i64.max = 9223372036854775807 from by decide] at this
    exact this.2
  clear hA0 hval0
  have hgo := reelCopies_walk awake_any ⟨z0, z1, ms.map (·.1)⟩ aa ca la ms W hT hml.symm (by simp only [maxLen] at hmx; omega) a1 a2 a3 hn
  dsimp only at hgo
  refine hgo.mono fun e W' ⟨he, bel⟩ => ?_
  subst he
  exact ⟨_, rfl, _, _, _, [], _, [], hW', trodAll_mk1 (shut_bool Try.underlying4 _), (trodAll_cons_mk (Below.trod laidOut (by kernel_rfl) (of_decide_eq_true (by kernel_rfl)) k0 bel lt0) (trodAll_cons_mk (shut_int Try.underlying3 w1) (trodAll_cons_mk (shut_int Try.underlying3 w2) (trodAll_cons_mk (shut_int Try.underlying3 w3) trodAll_mk0)))), rfl, bel.frame _, fun h => by cases h⟩

theorem reelCopies_over : Rows.reelCopiesRow.holds Try.pinned (OpenSpec.ofChange Rows.reelCopiesSpec) :=
  OpenClaim.holds_of_wide 9 Try.f9 rfl rfl rfl rfl rfl rfl rfl ⟨rfl, rfl, rfl, rfl, rfl⟩ rfl rfl rfl rfl rfl (by kernel_rfl) Try.func9 (by kernel_rfl)
    (of_decide_eq_true (by kernel_rfl)) (by unfold Func.isWrapper; first | (rw [if_pos (by decide +kernel)]; kernel_rfl) | (rw [if_neg (by decide +kernel)]; exact ⟨rfl, rfl⟩))
    (fun os started H enc _ => reelCopies_lifted os started H enc)

theorem reelCopies_said : Rows.ReelCopiesSaid := reelCopies_over
#print axioms reelCopies_said
end Go.Proofs.Ytnbnfadmbggfnaa
