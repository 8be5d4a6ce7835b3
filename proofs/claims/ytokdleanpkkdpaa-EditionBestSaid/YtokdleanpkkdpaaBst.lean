/-
  The law EditionBest of chapter 3: Fewest, Best, Why and Proves return what the reference returns, for any title and table, and nothing is turned; no conditions.
-/
import Derived.Test.YtokdleanpkkdpaaRows
import Derived.WalkKit
import Derived.ProofKit
import Derived.OpenShut
import Derived.ShutString
import Derived.ChangeOld
import Derived.Below
import Derived.Test.YtokdleanpkkdpaaOpn3
import Derived.Test.YtokdleanpkkdpaaMA
import Derived.Test.YtokdleanpkkdpaaW4
set_option linter.unusedSimpArgs false
namespace Go.Proofs.Ytokdleanpkkdpaa
open Go.ChangeShapes Go.WideShapes Go.ChangeAt Go.RowKit Go.Fh Go.Fh.Opn Go.Ed
set_option linter.unusedVariables false

theorem own : ownKnob Try.prog.godebug = none := by kernel_rfl
theorem laidOut : laidOutB Try.prog = true := by kernel_rfl

set_option maxRecDepth 100000 in
set_option maxHeartbeats 2000000 in
theorem editionBest_lifted (os : Os) (started : os.Started) (H : Type) (enc : TypeId × Value → H) :
    ReturnsInHanded {} Try.checked os 7 .any (Rows.editionBestSpec.pre6 enc Try.prog Try.f7 Rows.editionBestRow.domain false) (Rows.editionBestSpec.post enc Try.prog Try.f7 false true false false) := by
  refine returnsInHanded_of_change (C := Try.checked) own started (by kernel_rfl) Try.func7
    (ChangeSpec.witness6 (enc := enc) (C := Try.checked) false ⟨#[], #[.agg #[.slice none 0 0, .slice none 0 0, .slice none 0 0, .slice none 0 0, .int .i64 0, .int .i64 0, .int .i64 0, .int .i64 0], .slice none 0 0], []⟩ 8 (by kernel_rfl) (by kernel_rfl) (by kernel_rfl) (by kernel_rfl)) ?_
  intro W base args ds gs before hval0 hW hcnd _
  have hval : ∀ (j : Nat) t v, Try.f7.params[j]? = some t → args[j]? = some v → Value.okWide Try.prog W .any base t v := hval0
  have hW' := hW
  obtain ⟨p, q, hA0, hV, rfl, hfz, hnd⟩ := hW
  have hA : DataW.TrodAll enc Try.prog W 0 (fun _ => true) true Try.f7.params.toList args.toList ds p := hA0
  rw [Try.params7] at hA hval
  obtain ⟨v0, vs0, d0, ds0, p0, q0, hargs, rfl, rfl, h0, r0⟩ := trodAll_cons hA
  obtain ⟨v1, vs1, d1, ds1, p1, q1, rfl, rfl, rfl, h1, r1⟩ := trodAll_cons r0
  obtain ⟨rfl, rfl, rfl⟩ := trodAll_nil r1
  obtain rfl : args = #[v0, v1] := by cases args; simp_all
  obtain ⟨rfl, rfl⟩ := trodVars_none hV
  have k0 := h0
  have k1 := h1
  have lt0 : ∀ x ∈ p0, x.block < W.heap.size := by obtain ⟨m, hm⟩ := k0; exact DataW.trod_lt m _ _ _ hm
  have lt1 : ∀ x ∈ p1, x.block < W.heap.size := by obtain ⟨m, hm⟩ := k1; exact DataW.trod_lt m _ _ _ hm
  obtain ⟨u0, u1, u2, u3, u4, u5, u6, u7, y0, y1, y2, y3, y4, y5, y6, y7, n, rfl, t0, t1, t2, t3, t4, t5, t6, t7⟩ := open_agg8 Try.underlying26 (by kernel_rfl) (by kernel_rfl) (hval 0 26 v0 rfl rfl) h0
  obtain ⟨z4, e4, _, _⟩ := DataW.trod_int Try.underlying3 t4
  obtain ⟨z5, e5, _, _⟩ := DataW.trod_int Try.underlying3 t5
  obtain ⟨z6, e6, _, _⟩ := DataW.trod_int Try.underlying3 t6
  obtain ⟨z7, e7, _, _⟩ := DataW.trod_int Try.underlying3 t7
  simp at e4 e5 e6 e7
  subst e4; subst e5; subst e6; subst e7
  obtain ⟨aa, la, ca, rfl⟩ := sh_slice Try.underlying22 t0
  obtain ⟨ab, lb, cb, rfl⟩ := sh_slice Try.underlying22 t1
  obtain ⟨az, lz, cz, rfl⟩ := sh_slice Try.underlying23 t2
  obtain ⟨ar, lr, cr, rfl⟩ := sh_slice Try.underlying24 t3
  obtain ⟨co, rfl, _, sA⟩ := sl_ints Try.underlying22 Try.underlying3 (by kernel_rfl) (trod_one t0)
  obtain ⟨pr, rfl, _, sB⟩ := sl_ints Try.underlying22 Try.underlying3 (by kernel_rfl) (trod_one t1)
  obtain ⟨zs, hzl, sZ, sV⟩ := sl_zons Try.underlying23 Try.underlying47 rfl rfl rfl Try.underlying3 Try.underlying22 (by kernel_rfl) (by kernel_rfl) (by kernel_rfl) (trod_one t2)
  obtain ⟨rd, rfl, sR⟩ := sl_trips Try.underlying24 Try.underlying69 rfl rfl rfl Try.underlying3 (by kernel_rfl) (by kernel_rfl) (trod_one t3)
  obtain ⟨a1, len1, cap1, rfl⟩ := okWide_slice Try.underlying22 (hval 1 22 v1 rfl rfl)
  obtain ⟨od, hol, _, sO⟩ := sl_ints Try.underlying22 Try.underlying3 (by kernel_rfl) h1
  have hT : TitAt W W.heap.size ⟨co, pr, zs.map (·.1), rd, z4, z5, z6, z7⟩ ⟨aa, ca, ab, cb, az, cz, ar, cr⟩ zs := ⟨rfl, sA, sB, sZ, fun i h => sV _ (List.getElem_mem h), sR⟩
  have hzm : lz = (zs.map (·.1)).length := by rw [List.length_map, hzl]
  subst hzm
  clear hA0 hval0
  have hgo := editionBest_walk awake_any ⟨co, pr, zs.map (·.1), rd, z4, z5, z6, z7⟩ ⟨aa, ca, ab, cb, az, cz, ar, cr⟩ zs W hT a1 cap1 len1 od hol sO
  dsimp only at hgo
  refine hgo.mono fun e W' ⟨he, bel⟩ => ?_
  subst he
  exact ⟨_, rfl, _, _, _, [], _, [], hW', trodAll_mk1 (shut_bool Try.underlying4 _), (trodAll_cons_mk (Below.trod laidOut (by kernel_rfl) (of_decide_eq_true (by kernel_rfl)) k0 bel lt0) (trodAll_cons_mk (Below.trod laidOut (by kernel_rfl) (of_decide_eq_true (by kernel_rfl)) k1 bel lt1) trodAll_mk0)), rfl, bel.frame _, fun h => by cases h⟩

theorem editionBest_over : Rows.editionBestRow.holds Try.pinned (OpenSpec.ofChange Rows.editionBestSpec) :=
  OpenClaim.holds_of_wide 7 Try.f7 rfl rfl rfl rfl rfl rfl rfl ⟨rfl, rfl, rfl, rfl, rfl⟩ rfl rfl rfl rfl rfl (by kernel_rfl) Try.func7 (by kernel_rfl)
    (of_decide_eq_true (by kernel_rfl)) (by unfold Func.isWrapper; first | (rw [if_pos (by decide +kernel)]; kernel_rfl) | (rw [if_neg (by decide +kernel)]; exact ⟨rfl, rfl⟩))
    (fun os started H enc _ => editionBest_lifted os started H enc)

theorem editionBest_said : Rows.EditionBestSaid := editionBest_over
#print axioms editionBest_said
end Go.Proofs.Ytokdleanpkkdpaa
