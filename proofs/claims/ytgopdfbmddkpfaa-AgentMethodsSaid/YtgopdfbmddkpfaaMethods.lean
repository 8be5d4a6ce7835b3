/-
  The law AgentMethods of chapter 11: Says, Rate and Choose return what the reference returns, for any methods, history, day and costs, and turn nothing; no conditions.
-/
import Derived.Test.YtgopdfbmddkpfaaD5
import Derived.Test.YtgopdfbmddkpfaaG9
import Derived.Test.YtgopdfbmddkpfaaRows
import Derived.WalkKit
import Derived.ProofKit
import Derived.OpenShut
import Derived.ShutString
import Derived.ChangeOld
import Derived.Below
import Derived.SizedLaws
import Derived.Test.YtgopdfbmddkpfaaOpn3
import Derived.Test.YtgopdfbmddkpfaaW2
set_option linter.unusedSimpArgs false
set_option linter.unusedVariables false
namespace Go.Proofs.Ytgopdfbmddkpfaa
open Go.RowKit Go.Fh Go.Ag
set_option maxRecDepth 20000 in
set_option maxHeartbeats 2000000 in
theorem agentMethods_walk (haw : ∀ w, Calls Try.prog 15 #[] w fun e w' => e = .returned (.bool true) ∧ Below w.heap.size w w') (L : Option Addr) (cl : Nat) (l : List (Int × Int)) (A : Option Addr) (c : Nat) (h : List (Int × Int)) (day over under : Int) (w : World) (hl : l.length * 16 ≤ 140737488355328) (hh : h.length * 16 ≤ 140737488355328) (hL : Sl enc2 2 w w.heap.size L l) (hA : Sl enc2 2 w w.heap.size A h) :
    Calls Try.prog 9 #[.slice L l.length cl, .slice A h.length c, .int .i64 day, .int .i64 over, .int .i64 under] w fun e w' => e = .returned (.bool true) ∧ Below w.heap.size w w' := by
  have HL := Lib.hid hL
  have HA := Lib.hid hA
  clear hL hA
  have h50 : ∀ w1 : World, Below w.heap.size w w1 → l.length ≤ 50 → Calls Try.prog 28 #[.slice L l.length cl, .slice A h.length c, .int .i64 day, .int .i64 over, .int .i64 under] w1 fun e w' => e = .returned (.bool true) ∧ Below w1.heap.size w1 w' := by
    intro w1 hb h5
    exact methods_any L cl l A c h day over under w1 h5 hh ((HL.out.below hb).mono hb.size) ((HA.out.below hb).mono hb.size)
  have H50 := Lib.hid h50
  clear h50
  go_enter Try.func9, Try.ntmps9
  go_wp2_with fail
  refine (dear_any A c h _ hh HA.out).mono ?_
  rintro e w1 ⟨⟨b, rfl⟩, hb1⟩
  cases b
  · by_cases h5 : 50 < l.length
    · have t3 : decide ((50 : Int) < (l.length : Int)) = true := by simp; omega
      go_wp2_with fail
      refine (haw _).mono ?_
      rintro e w3 ⟨rfl, hb3⟩
      have hbb3 := hb1.trans (hb3.mono hb1.size)
      go_wp2_with fail
      go_ret
      exact ⟨rfl, hbb3⟩
    · have t3 : decide ((50 : Int) < (l.length : Int)) = false := by simp; omega
      go_wp2_with fail
      refine (H50.out w1 hb1 (by omega)).mono ?_
      rintro e w2 ⟨rfl, hb2⟩
      have hbb2 := hb1.trans (hb2.mono hb1.size)
      go_wp2_with fail
      refine (haw _).mono ?_
      rintro e w3 ⟨rfl, hb3⟩
      have hbb3 := hbb2.trans (hb3.mono hbb2.size)
      go_wp2_with fail
      go_ret
      exact ⟨rfl, hbb3⟩
  · go_wp2_with fail
    refine (haw _).mono ?_
    rintro e w3 ⟨rfl, hb3⟩
    have hbb3 := hb1.trans (hb3.mono hb1.size)
    go_wp2_with fail
    go_ret
    exact ⟨rfl, hbb3⟩
end Go.Proofs.Ytgopdfbmddkpfaa
namespace Go.Proofs.Ytgopdfbmddkpfaa
open Go.ChangeShapes Go.WideShapes Go.ChangeAt Go.RowKit Go.Fh Go.Fh.Opn Go.Ag Go.Joins

theorem own : ownKnob Try.prog.godebug = none := by kernel_rfl
theorem laidOut : laidOutB Try.prog = true := by kernel_rfl

set_option maxRecDepth 100000 in
theorem agentMethods_lifted (os : Os) (started : os.Started) (H : Type) (enc : TypeId × Value → H) :
    ReturnsInHanded {} Try.checked os 9 .any (Rows.agentMethodsSpec.pre6 enc Try.prog Try.f9 Rows.agentMethodsRow.domain false) (Rows.agentMethodsSpec.post enc Try.prog Try.f9 false true false false) := by
  refine returnsInHanded_of_change_sized (C := Try.checked) own started (by kernel_rfl) Try.func9
    (ChangeSpec.witness6 (enc := enc) (C := Try.checked) false ⟨#[], #[.slice none 0 0, .slice none 0 0, .int .i64 0, .int .i64 0, .int .i64 0], []⟩ 8 (by kernel_rfl) (by kernel_rfl) (by kernel_rfl) (by kernel_rfl)) ?_
  intro W base args ds gs before hval0 hW hcnd hsz _
  have hval : ∀ (j : Nat) t v, Try.f9.params[j]? = some t → args[j]? = some v → Value.okWide Try.prog W .any base t v := hval0
  have hW' := hW
  obtain ⟨p, q, hA0, hV, rfl, hfz, hnd⟩ := hW
  have hA : DataW.TrodAll enc Try.prog W 0 (fun _ => true) true Try.f9.params.toList args.toList ds p := hA0
  rw [Try.params9] at hA hval
  obtain ⟨v0, vs0, d0, ds0, p0, q0, hargs, rfl, rfl, h0, r0⟩ := trodAll_cons hA
  obtain ⟨v1, vs1, d1, ds1, p1, q1, rfl, rfl, rfl, h1, r1⟩ := trodAll_cons r0
  obtain ⟨v2, vs2, d2, ds2, p2, q2, rfl, rfl, rfl, h2, r2⟩ := trodAll_cons r1
  obtain ⟨v3, vs3, d3, ds3, p3, q3, rfl, rfl, rfl, h3, r3⟩ := trodAll_cons r2
  obtain ⟨v4, vs4, d4, ds4, p4, q4, rfl, rfl, rfl, h4, r4⟩ := trodAll_cons r3
  obtain ⟨rfl, rfl, rfl⟩ := trodAll_nil r4
  obtain rfl : args = #[v0, v1, v2, v3, v4] := by cases args; simp_all
  obtain ⟨rfl, rfl⟩ := trodVars_none hV
  obtain ⟨a0, len0, cap0, rfl⟩ := okWide_slice Try.underlying69 (hval 0 69 v0 rfl rfl)
  obtain ⟨a1, len1, cap1, rfl⟩ := okWide_slice Try.underlying24 (hval 1 24 v1 rfl rfl)
  have k0 := h0
  have k1 := h1
  have lt0 : ∀ x ∈ p0, x.block < W.heap.size := by obtain ⟨m, hm⟩ := k0; exact DataW.trod_lt m _ _ _ hm
  have lt1 : ∀ x ∈ p1, x.block < W.heap.size := by obtain ⟨m, hm⟩ := k1; exact DataW.trod_lt m _ _ _ hm
  obtain ⟨l0, rfl, hsl, _, s0⟩ := sl_pairs_sized Try.underlying69 Try.underlying72 rfl rfl Try.underlying3 (by kernel_rfl) (by kernel_rfl) h0
  obtain ⟨l1, rfl, hsl1, _, s1⟩ := sl_pairs_sized Try.underlying24 Try.underlying33 rfl rfl Try.underlying3 (by kernel_rfl) (by kernel_rfl) h1
  have hl16 : l0.length * 16 ≤ 140737488355328 := by
    rcases hsl with h | ⟨es, sp, rfl, he⟩
    · omega
    · have hb : (es.length + sp.length) * Try.prog.bytesOf 72 ≤ reachBytes := sized_slice hsz (j := 0) (t := 69) (e := 72) (elems := es) (spare := sp) (by rfl) (by rfl) Try.underlying69
      have h16 : Try.prog.bytesOf 72 = 16 := by kernel_rfl
      have hr : reachBytes ≤ 140737488355328 := by decide
      rw [h16] at hb
      omega
  have hh16 : l1.length * 16 ≤ 140737488355328 := by
    rcases hsl1 with h | ⟨es, sp, rfl, he⟩
    · omega
    · have hb : (es.length + sp.length) * Try.prog.bytesOf 33 ≤ reachBytes := sized_slice hsz (j := 1) (t := 24) (e := 33) (elems := es) (spare := sp) (by rfl) (by rfl) Try.underlying24
      have h16 : Try.prog.bytesOf 33 = 16 := by kernel_rfl
      have hr : reachBytes ≤ 140737488355328 := by decide
      rw [h16] at hb
      omega
  obtain ⟨a2, rfl, rfl, rfl, w2⟩ := open_int Try.underlying3 (hval 2 3 v2 rfl rfl) h2
  obtain ⟨a3, rfl, rfl, rfl, w3⟩ := open_int Try.underlying3 (hval 3 3 v3 rfl rfl) h3
  obtain ⟨a4, rfl, rfl, rfl, w4⟩ := open_int Try.underlying3 (hval 4 3 v4 rfl rfl) h4
  clear hA0 hval0
  refine (agentMethods_walk awake_any a0 cap0 l0 a1 cap1 l1 a2 a3 a4 W hl16 hh16 s0 s1).mono fun e W' ⟨he, bel⟩ => ?_
  subst he
  exact ⟨_, rfl, _, _, _, [], _, [], hW', trodAll_mk1 (shut_bool Try.underlying4 _), (trodAll_cons_mk (Below.trod laidOut (by kernel_rfl) (of_decide_eq_true (by kernel_rfl)) k0 bel lt0) (trodAll_cons_mk (Below.trod laidOut (by kernel_rfl) (of_decide_eq_true (by kernel_rfl)) k1 bel lt1) (trodAll_cons_mk (shut_int Try.underlying3 w2) (trodAll_cons_mk (shut_int Try.underlying3 w3) (trodAll_cons_mk (shut_int Try.underlying3 w4) trodAll_mk0))))), rfl, bel.frame _, fun h => by cases h⟩

theorem agentMethods_over : Rows.agentMethodsRow.holds Try.pinned (OpenSpec.ofChange Rows.agentMethodsSpec) :=
  OpenClaim.holds_of_wide 9 Try.f9 rfl rfl rfl rfl rfl rfl rfl ⟨rfl, rfl, rfl, rfl, rfl⟩ rfl rfl rfl rfl rfl (by kernel_rfl) Try.func9 (by kernel_rfl)
    (of_decide_eq_true (by kernel_rfl)) (by unfold Func.isWrapper; first | (rw [if_pos (by decide +kernel)]; kernel_rfl) | (rw [if_neg (by decide +kernel)]; exact ⟨rfl, rfl⟩))
    (fun os started H enc _ => agentMethods_lifted os started H enc)

theorem agentMethods_said : Rows.AgentMethodsSaid := agentMethods_over
#print axioms agentMethods_said
end Go.Proofs.Ytgopdfbmddkpfaa
