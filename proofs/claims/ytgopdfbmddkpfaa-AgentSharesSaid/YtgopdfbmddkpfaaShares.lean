/-
  The law AgentShares of chapter 11: Share and Fair return what the reference returns, for any orders, copies and shares, and turn nothing; no conditions.
-/
import Derived.Test.YtgopdfbmddkpfaaRows
import Derived.WalkKit
import Derived.ProofKit
import Derived.OpenShut
import Derived.ShutString
import Derived.ChangeOld
import Derived.Below
import Derived.SizedLaws
import Derived.Test.YtgopdfbmddkpfaaOpn4
import Derived.Test.YtgopdfbmddkpfaaQ6
import Derived.Test.YtgopdfbmddkpfaaW2
set_option linter.unusedSimpArgs false
namespace Go.Proofs.Ytgopdfbmddkpfaa
open Go.ChangeShapes Go.WideShapes Go.ChangeAt Go.RowKit Go.Fh Go.Fh.Opn Go.Ag Go.Joins
set_option linter.unusedVariables false

theorem own : ownKnob Try.prog.godebug = none := by kernel_rfl
theorem laidOut : laidOutB Try.prog = true := by kernel_rfl

theorem i64_bd {n : Int} (h : (Lit.int .i64 n).wf = true) : n ≤ 9223372036854775807 := by
  simp only [Lit.wf, Bool.and_eq_true, decide_eq_true_eq] at h
  rw [show IntKind.i64.max = 9223372036854775807 from by decide] at h
  exact h.2
set_option maxRecDepth 100000 in
theorem agentShares_lifted (os : Os) (started : os.Started) (H : Type) (enc : TypeId × Value → H) :
    ReturnsInHanded {} Try.checked os 7 .any (Rows.agentSharesSpec.pre6 enc Try.prog Try.f7 Rows.agentSharesRow.domain false) (Rows.agentSharesSpec.post enc Try.prog Try.f7 false true false false) := by
  refine returnsInHanded_of_change_sized (C := Try.checked) own started (by kernel_rfl) Try.func7
    (ChangeSpec.witness6 (enc := enc) (C := Try.checked) false ⟨#[], #[.slice none 0 0, .int .i64 0, .slice none 0 0], []⟩ 8 (by kernel_rfl) (by kernel_rfl) (by kernel_rfl) (by kernel_rfl)) ?_
  intro W base args ds gs before hval0 hW hcnd hsz _
  have hval : ∀ (j : Nat) t v, Try.f7.params[j]? = some t → args[j]? = some v → Value.okWide Try.prog W .any base t v := hval0
  have hW' := hW
  obtain ⟨p, q, hA0, hV, rfl, hfz, hnd⟩ := hW
  have hA : DataW.TrodAll enc Try.prog W 0 (fun _ => true) true Try.f7.params.toList args.toList ds p := hA0
  rw [Try.params7] at hA hval
  obtain ⟨v0, vs0, d0, ds0, p0, q0, hargs, rfl, rfl, h0, r0⟩ := trodAll_cons hA
  obtain ⟨v1, vs1, d1, ds1, p1, q1, rfl, rfl, rfl, h1, r1⟩ := trodAll_cons r0
  obtain ⟨v2, vs2, d2, ds2, p2, q2, rfl, rfl, rfl, h2, r2⟩ := trodAll_cons r1
  obtain ⟨rfl, rfl, rfl⟩ := trodAll_nil r2
  obtain rfl : args = #[v0, v1, v2] := by cases args; simp_all
  obtain ⟨rfl, rfl⟩ := trodVars_none hV
  obtain ⟨a0, len0, cap0, rfl⟩ := okWide_slice Try.underlying39 (hval 0 39 v0 rfl rfl)
  obtain ⟨a2, len2, cap2, rfl⟩ := okWide_slice Try.underlying37 (hval 2 37 v2 rfl rfl)
  have k0 := h0
  have k2 := h2
  have lt0 : ∀ x ∈ p0, x.block < W.heap.size := by obtain ⟨m, hm⟩ := k0; exact DataW.trod_lt m _ _ _ hm
  have lt2 : ∀ x ∈ p2, x.block < W.heap.size := by obtain ⟨m, hm⟩ := k2; exact DataW.trod_lt m _ _ _ hm
  obtain ⟨l0, rfl, hsl, _, s0⟩ := sl_trips_sized Try.underlying39 Try.underlying44 rfl rfl rfl Try.underlying3 (by kernel_rfl) (by kernel_rfl) h0
  obtain ⟨l2, rfl, _, s2⟩ := sl_ints Try.underlying37 Try.underlying3 (by kernel_rfl) h2
  have hl16 : l0.length * 24 ≤ 140737488355328 := by
    rcases hsl with h | ⟨es, sp, rfl, he⟩
    · omega
    · have hb : (es.length + sp.length) * Try.prog.bytesOf 44 ≤ reachBytes := sized_slice hsz (j := 0) (t := 39) (e := 44) (elems := es) (spare := sp) (by rfl) (by rfl) Try.underlying39
      have h16 : Try.prog.bytesOf 44 = 24 := by kernel_rfl
      have hr : reachBytes ≤ 140737488355328 := by decide
      rw [h16] at hb
      omega
  obtain ⟨a1, rfl, rfl, rfl, w1⟩ := open_int Try.underlying3 (hval 1 3 v1 rfl rfl) h1
  have hc1 : a1 ≤ 9223372036854775807 := i64_bd w1
  clear hA0 hval0
  refine (agentShares_walk awake_any a0 cap0 l0 a1 a2 cap2 l2 W hl16 hc1 s0 s2).mono fun e W' ⟨he, bel⟩ => ?_
  subst he
  exact ⟨_, rfl, _, _, _, [], _, [], hW', trodAll_mk1 (shut_bool Try.underlying4 _), (trodAll_cons_mk (Below.trod laidOut (by kernel_rfl) (of_decide_eq_true (by kernel_rfl)) k0 bel lt0) (trodAll_cons_mk (shut_int Try.underlying3 w1) (trodAll_cons_mk (Below.trod laidOut (by kernel_rfl) (of_decide_eq_true (by kernel_rfl)) k2 bel lt2) trodAll_mk0))), rfl, bel.frame _, fun h => by cases h⟩

theorem agentShares_over : Rows.agentSharesRow.holds Try.pinned (OpenSpec.ofChange Rows.agentSharesSpec) :=
  OpenClaim.holds_of_wide 7 Try.f7 rfl rfl rfl rfl rfl rfl rfl ⟨rfl, rfl, rfl, rfl, rfl⟩ rfl rfl rfl rfl rfl (by kernel_rfl) Try.func7 (by kernel_rfl)
    (of_decide_eq_true (by kernel_rfl)) (by unfold Func.isWrapper; first | (rw [if_pos (by decide +kernel)]; kernel_rfl) | (rw [if_neg (by decide +kernel)]; exact ⟨rfl, rfl⟩))
    (fun os started H enc _ => agentShares_lifted os started H enc)

theorem agentShares_said : Rows.AgentSharesSaid := agentShares_over
#print axioms agentShares_said
end Go.Proofs.Ytgopdfbmddkpfaa
