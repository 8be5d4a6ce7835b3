/- Contracts: Method.says, which collects what was sold on the days that a method looks at; conditions: none. -/
import Derived.Test.YtgopdfbmddkpfaaN3
import Derived.Test.YtgopdfbmddkpfaaM2
import Derived.Test.YtgopdfbmddkpfaaB2
import Derived.RangeFuncNested
import Derived.Sort.CutIn
import Derived.RangeFuncCalls
import Derived.Shelf.RegionOpen
import Derived.BigQuiet
set_option linter.unusedSimpArgs false
set_option linter.unusedVariables false
namespace Go.Ag
open Go.Proofs.Ytgopdfbmddkpfaa
def sayV (kind : Int) (l : List Int) : Int := if kind = 1 then l.getD 0 0 else if kind = 4 then Lib.maxOf l else (sumI l + l.length - 1) / l.length
def saysM (m : Int × Int) (h : List (Int × Int)) (day : Int) : Int × Bool := if (lookN m day : Int) < m.2 then (0, false) else (sayV m.1 (soldL m h day), true)
def saysD (m : Int × Int) (h : List (Int × Int)) (day : Int) : Int × Bool × Int :=
  if checkH h ≠ 0 then (0, false, checkH h) else if wrongM m = true then (0, false, 1) else if inB day 0 h.length = false then (0, false, 6) else ((saysM m h day).1, (saysM m h day).2, 0)
end Go.Ag
namespace Go.Proofs.Ytgopdfbmddkpfaa
open Go.RowKit Go.Shelf Go.Ag Go.Fh
attribute [local go_sem] Oper.semAt_some
theorem info3 : (Try.prog.info? 3).map (fun i => (i.zero, i.size, i.bytes)) = some (some (.int .i64 0), 1, 8) := by kernel_rfl

def appHid (ats : Array TypeId) (ty : TypeId) (args : Array Value) : Sem Value := Builtin.append_ ats ty args
theorem builtin_append_hid (ats : Array TypeId) (ty : TypeId) (cs : Array Bool) (args : Array Value) : builtin .append ats ty cs args = (do pure (.value (← appHid ats ty args))) := rfl
attribute [local go_sem ↓ 2000] builtin_append_hid
theorem wpIn_calm {F : Fence} {n : Nat} {P : Program} {c : Code} {K : Act → World → Prop} {Q' : Exit → Act → World → Prop} {a : Act} {w : World} (h : c.wpIn F n P (Exit.then K (fun _ _ _ => False)) a w) : c.wpIn F n P (Exit.then K Q') a w :=
  wpIn_mono h (fun e a w q => by cases e <;> first | exact q | exact q.elim)
theorem idx1 (W : World) : (Instr.index 200 (.agg #[.nilFunc, .func (.func 139) #[] #[], .func (.func 140) #[] #[], .func (.func 140) #[] #[], .func (.func 141) #[] #[]]) (.int .i64 1)).run Try.prog W = .ok (.func (.func 139) #[] #[]) W := by kernel_rfl
theorem idx2 (W : World) : (Instr.index 200 (.agg #[.nilFunc, .func (.func 139) #[] #[], .func (.func 140) #[] #[], .func (.func 140) #[] #[], .func (.func 141) #[] #[]]) (.int .i64 2)).run Try.prog W = .ok (.func (.func 140) #[] #[]) W := by kernel_rfl
theorem idx3 (W : World) : (Instr.index 200 (.agg #[.nilFunc, .func (.func 139) #[] #[], .func (.func 140) #[] #[], .func (.func 140) #[] #[], .func (.func 141) #[] #[]]) (.int .i64 3)).run Try.prog W = .ok (.func (.func 140) #[] #[]) W := by kernel_rfl
theorem idx4 (W : World) : (Instr.index 200 (.agg #[.nilFunc, .func (.func 139) #[] #[], .func (.func 140) #[] #[], .func (.func 140) #[] #[], .func (.func 141) #[] #[]]) (.int .i64 4)).run Try.prog W = .ok (.func (.func 141) #[] #[]) W := by kernel_rfl
theorem blk_own {β : Type} (g : Nat) (t : TypeId) (cs : Array Value) : Own (fun (_ : β) W => Blk W g t cs) := fun s X Y row hs hg hrow =>
  (hg.block g hs.lt (fun e' => by obtain ⟨o, ho, hc⟩ := hrow g e'.symm; rw [show X.heap[g]? = _ from hs] at ho; cases ho; cases hc)).trans hs
theorem kpt_heap {B1 B2 : Nat} {A B : World} (h1 : B.heap[B1]? = A.heap[B1]?) (h2 : B.heap[B2]? = A.heap[B2]?) : Kpt B1 B2 A B := ⟨fun i => by simp [World.cell?, h1], fun i => by simp [World.cell?, h2]⟩

set_option maxRecDepth 100000 in
set_option maxHeartbeats 2000000 in
theorem saysM_any (m : Int × Int) (A : Option Addr) (c : Nat) (h : List (Int × Int)) (day : Int) (w : World) (hl : h.length ≤ 400) (hA : Sl enc2 2 w w.heap.size A h) (hd : ∀ d ∈ h, OkDay d) (hw : wrongM m = false) (hd0 : 0 ≤ day) (hd1 : day ≤ h.length) :
    Calls Try.prog 81 #[.agg #[.int .i64 m.1, .int .i64 m.2], .slice A h.length c, .int .i64 day] w fun e w' => e = .returned (.tuple #[.int .i64 (saysM m h day).1, .bool (saysM m h day).2]) ∧ Below w.heap.size w w' := by
  obtain ⟨i0, hi, hz0, hz1, hz2⟩ := info_parts info3
  have hm : (1 ≤ m.1 ∧ m.1 ≤ 4) ∧ 1 ≤ m.2 ∧ m.2 ≤ 60 := by simp [wrongM, inB] at hw; omega
  have hlk : lookN m day ≤ 60 := by unfold lookN; split <;> omega
  have hml : 1000 ≤ maxLen := by decide
  have HA := Lib.hid hA
  have HD := Lib.hid hd
  have HI := Lib.hid hi
  clear hA hd hw hi
  obtain ⟨⟨hm1, hm2⟩, hm3, hm4⟩ := hm
  refine (callsIn_wide (n := 3)).1 ?_
  refine callsIn_of_wp_marks Try.func81 rfl trivial ?_ rfl
  simp only [Try.ntmps81, List.size_toArray, List.length_cons, List.length_nil, Nat.reduceAdd, Nat.reduceSub, Array.replicate_succ, Array.replicate_zero, List.push_toArray, List.append_toArray, List.nil_append, List.cons_append]
  gi_wp2_with (refine ⟨trivial, ?_⟩; gi_at_call 117; refine (days_in Fence.wide _ trivial rfl _ _ _).mono ?_; rintro e w' ⟨rfl, rfl⟩)
  obtain ⟨W0, hW0⟩ : ∃ W0, W0 = ((((w.alloc (Obj.cells #[Value.int IntKind.i64 m.fst, Value.int IntKind.i64 m.snd] 72)).alloc (Obj.cells #[Value.slice A h.length c] 24)).alloc (Obj.cells #[Value.slice none 0 0] 37)).alloc (Obj.cells #[Value.int IntKind.i64 m.fst, Value.int IntKind.i64 m.snd] 72)).alloc (Obj.cells #[Value.int IntKind.i64 day] 3) := ⟨_, rfl⟩
  rw [← hW0]
  have hz : W0.heap.size = w.heap.size + 1 + 1 + 1 + 1 + 1 := by rw [hW0]; simp
  have hB0 : Below w.heap.size w W0 := by rw [hW0]; exact (((((Below.refl _ w).alloc (Nat.le_refl _) _).alloc (by simp) _).alloc (by simp; omega) _).alloc (by simp; omega) _).alloc (by simp; omega) _
  have bM : Blk W0 w.heap.size 72 #[.int .i64 m.1, .int .i64 m.2] := by rw [hW0]; exact ((((Blk.new w 72 _).alloc _).alloc _).alloc _).alloc _
  have bH : Blk W0 (w.heap.size + 1) 24 #[.slice A h.length c] := by
    rw [hW0]
    have := ((Blk.new (w.alloc (Obj.cells #[Value.int IntKind.i64 m.fst, Value.int IntKind.i64 m.snd] 72)) 24 #[.slice A h.length c]))
    rw [World.size_alloc] at this
    exact ((this.alloc _).alloc _).alloc _
  have bS : Boxed W0 (w.heap.size + 1 + 1) 37 (.slice none 0 0) := by
    rw [hW0]
    have := (Boxed.new ((w.alloc (Obj.cells #[Value.int IntKind.i64 m.fst, Value.int IntKind.i64 m.snd] 72)).alloc (Obj.cells #[Value.slice A h.length c] 24)) 37 (.slice none 0 0))
    simp only [World.size_alloc] at this
    exact (this.alloc _).alloc _
  have b1 : Blk W0 (w.heap.size + 1 + 1 + 1) 72 #[.int .i64 m.1, .int .i64 m.2] := by
    rw [hW0]
    have := Blk.new (((w.alloc (Obj.cells #[Value.int IntKind.i64 m.fst, Value.int IntKind.i64 m.snd] 72)).alloc (Obj.cells #[Value.slice A h.length c] 24)).alloc (Obj.cells #[Value.slice none 0 0] 37)) 72 #[.int .i64 m.1, .int .i64 m.2]
    simp only [World.size_alloc] at this
    exact this.alloc _
  have b2 : Blk W0 (w.heap.size + 1 + 1 + 1 + 1) 3 #[.int .i64 day] := by
    rw [hW0]
    have := Blk.new ((((w.alloc (Obj.cells #[Value.int IntKind.i64 m.fst, Value.int IntKind.i64 m.snd] 72)).alloc (Obj.cells #[Value.slice A h.length c] 24)).alloc (Obj.cells #[Value.slice none 0 0] 37)).alloc (Obj.cells #[Value.int IntKind.i64 m.fst, Value.int IntKind.i64 m.snd] 72)) 3 #[.int .i64 day]
    simp only [World.size_alloc] at this
    exact this
  clear hW0
  refine wpIn_rangeFunc_ownG rfl (by omega) (gf := 138) (lb := #[.pointer (some ⟨w.heap.size + 1 + 1 + 1, 0, none⟩), .pointer (some ⟨w.heap.size + 1 + 1 + 1 + 1, 0, none⟩)]) rfl trivial (enters_of Try.func138 (by kernel_rfl) rfl)
    (iter_stops Fence.wide _ trivial rfl (by omega) (w.heap.size + 1 + 1 + 1) (w.heap.size + 1 + 1 + 1 + 1) m day hd0 (by omega) (by omega) (by omega) W0 (by omega) (by omega) (b1.cell 0) (b1.cell 1) (b2.cell 0)) Kpt.trans (kpt_b (by omega) (by omega)) (Below.refl _ _) (fun _ => rfl)
    (fun pre W => ((Blk W w.heap.size 72 #[.int .i64 m.1, .int .i64 m.2] ∧ Blk W (w.heap.size + 1) 24 #[.slice A h.length c] ∧ W0.heap.size ≤ W.heap.size) ∧ ∃ v, Boxed W (w.heap.size + 1 + 1) 37 v ∧ W.ownsRow W0.heap.size 3 1 v pre.length ((pre.map fun x => soldAt h x.1).map (Value.int .i64)) ∧ True) ∧ Below w.heap.size w W)
    (fun _ _ _ => False)
    (OwnFrom.and (Own.from (fun s X Y row hs hg hr => ⟨⟨blk_own w.heap.size 72 _ s X Y row hs.1.1 hg hr, blk_own (w.heap.size + 1) 24 _ s X Y row hs.1.2.1 hg hr, Nat.le_trans hs.1.2.2 hg.size⟩, holdsRow_own W0.heap.size (w.heap.size + 1 + 1) 37 3 1 (fun pre : List (DayI day) => pre.length) (fun pre => (pre.map fun x => soldAt h x.1).map (Value.int .i64)) (fun _ _ => True) s X Y row hs.2 hg hr⟩) _) (ownFrom_below (Nat.le_refl _) (by omega)))
    (fun _ _ _ _ _ hs _ _ => hs)
    ⟨⟨⟨bM, bH, Nat.le_refl _⟩, _, bS, World.ownsRow_nil _ _ _ _, trivial⟩, hB0⟩
    (fun x => { tmps := #[.agg #[.int .i64 m.1, .int .i64 m.2], .slice A h.length c, .int .i64 day, .pointer (some ⟨w.heap.size, 0, none⟩), .pointer (some ⟨w.heap.size + 1, 0, none⟩), undef, .int .i64 0, .bool false, .pointer (some ⟨w.heap.size + 1 + 1, 0, none⟩), .int .i64 x.1,
      .agg #[.int .i64 m.1, .int .i64 m.2], .int .i64 day, .func (.func 138) #[] #[.pointer (some ⟨w.heap.size + 1 + 1 + 1, 0, none⟩), .pointer (some ⟨w.heap.size + 1 + 1 + 1 + 1, 0, none⟩)], .int .i64 x.1, undef, undef, undef, undef, undef, undef, undef, undef, undef, undef, undef, undef, undef, undef, undef, undef, undef, undef, undef, undef], defers := [] }) ?assign ?body ?done ?stop
  case assign =>
    intro l x W K hK
    gi_wp2
    exact hK
  case body =>
    rintro l pre ⟨x, hx⟩ W ⟨⟨⟨hBm, hBh, hWz⟩, v, hv, hrow, _⟩, hB⟩ hlt
    have hx' : 0 ≤ x ∧ x < day := by
      rcases hx with h0 | h0
      · exfalso
        have : day = 0 := by omega
        subst this
        unfold lookN at hlt
        split at hlt <;> simp at hlt
      · exact h0
    obtain ⟨k, rfl⟩ : ∃ k : Nat, x = k := ⟨x.toNat, by omega⟩
    obtain ⟨hx1, hx2⟩ := hx'
    have hk : k < h.length := by omega
    obtain ⟨b, off, rfl, hb, c1, c2⟩ := (HA.out.below hB).at2 hk
    have hday := HD.out _ (List.getElem_mem hk)
    have hso : soldAt h k = h[k].1 - h[k].2 := by simp [soldAt, hk]
    have HSO := Lib.hid hso
    obtain ⟨q1, q2, q3, q4⟩ := hday
    clear hso
    obtain ⟨A1, cc, rfl⟩ := own_shape hrow
    have hone : ∀ u ∈ [Value.int .i64 (h[k].1 - h[k].2)], u.oneCell' = true := by intro u hu; simp at hu; subst hu; rfl
    have hmm1 : pre.length + 1 ≤ maxLen := by omega
    have hmm2 : (pre.length + 1) * 8 ≤ 140737488355328 := by omega
    have hcS := hv.cell
    have hcH := hBh.cell 0
    simp at hcH
    have hd' : 1 ≤ 3 - 1 - 1 := by omega
    have hmx : Try.prog.follows .mixedOrders = true := by kernel_rfl
    dsimp only
    gi_wp2
    gi_region_with_o (
      (refine ⟨trivial, ?_⟩
       gi_at_call 40
       refine (CallsIn.inRound l (callsIn_wide.2 (sold_any h[k].1 h[k].2 _ q1 q2 q3 q4))).mono ?_
       rintro e w1 ⟨rfl, hb1⟩
       have hz1' : W.heap.size ≤ w1.heap.size := hb1.size
       have hv1 : Boxed w1 (w.heap.size + 1 + 1) 37 (.slice A1 pre.length cc) := Blk.below (w := W.drew) hv hb1 hv.lt
       have hrow1 : w1.ownsRow W0.heap.size 3 1 (.slice A1 pre.length cc) pre.length ((pre.map fun x => soldAt h x.1).map (Value.int .i64)) := own_below (w := W.drew) hrow hb1 (Nat.le_refl _)
       have hcS1 := hv1.cell
       have hcS2 := (hv1.alloc (.cells #[.int .i64 (h[k].1 - h[k].2)] 3)).cell
       obtain ⟨g', cap', w2, hrun, hown', hgrow, _, _⟩ := run_append_lies (P := Try.prog) (w := w1.alloc (.cells #[.int .i64 (h[k].1 - h[k].2)] 3)) 37 37 W0.heap.size 3 i0 (.int .i64 0) 1 8 Try.underlying37 HI.out hz0 hz1 hz2 rfl (by decide) (.slice A1 pre.length cc) pre.length ((pre.map fun x => soldAt h x.1).map (Value.int .i64)) (hrow1.alloc _) ⟨w1.heap.size, 0, none⟩ 1 1 [.int .i64 (h[k].1 - h[k].2)] rfl (news_of1 w1 3 #[.int .i64 (h[k].1 - h[k].2)]) hone (by omega) hmm1 hmm2 (by simp; omega) _ rfl
       have hrun' : (appHid #[37, 37] 37 #[.slice A1 pre.length cc, .slice (some ⟨w1.heap.size, 0, none⟩) 1 1]).run Try.prog (w1.alloc (.cells #[.int .i64 (h[k].1 - h[k].2)] 3)) = .ok (.slice (some ⟨g', 0, none⟩) (pre.length + 1) cap') w2 := hrun
       obtain ⟨⟨hv2, hv3, hr3, hk3, hb3⟩, hkp⟩ := appended2 (n₀ := w.heap.size) hv1 (by decide) hrow1 (by omega) (by omega) (by omega) hown' hgrow
       have hc2 := hv2.cell
       have hf2 := hv2.frozen
       have HR3 := Lib.hid hr3
       have HKP := Lib.hid hkp
       clear hrun hown' hgrow hkp hr3 hrow1))
    all_goals gi_wp2
    all_goals (try go_bits)
    all_goals
      have hWW : w.heap.size ≤ W.heap.size := hB.size
      have hw1 : ∀ g, g < W0.heap.size → g ≠ w.heap.size + 1 + 1 → (w2.setCell ⟨w.heap.size + 1 + 1, 0, none⟩ (.slice (some ⟨g', 0, none⟩) (pre.length + 1) cap')).heap[g]? = W.heap[g]? := fun g hg hne => (HKP.out g hg hne).trans (hb1.block g (show g < W.heap.size by omega))
      have kO : KeepsOthers W w1 := ⟨hb1.size, fun k o h _ => (hb1.block k (Array.getElem?_eq_some_iff.1 h).1).trans h⟩
      refine ⟨(kO.trans hk3).from _, kpt_heap (hw1 _ (by omega) (by omega)) (hw1 _ (by omega) (by omega)), ⟨⟨(hw1 _ (by omega) (by omega)).trans hBm, (hw1 _ (by omega) (by omega)).trans hBh, Nat.le_trans hWz ((kO.trans hk3).size)⟩, _, hv3, ?_, trivial⟩, (hB.drew).trans ((hb1.mono hWW).trans hb3)⟩
      have hr := HR3.out
      have hso := HSO.out
      simpa [hso] using hr
  case done =>
    rintro D ys W hD rfl ⟨⟨⟨hBm, hBh, hWz⟩, v, hv, hrow, _⟩, hB⟩ hK
    rw [soldL_fD hd0 (by omega), uptoF_length] at hrow
    obtain ⟨A1, cc, rfl⟩ := own_shape hrow
    have hcS := hv.cell
    have hcM := hBm.cell 0
    have hcN := hBm.cell 1
    simp at hcM hcN
    have hbD := fun (X : World) (hX : X.heap[D]? = some (.deferred (some []))) => belowK_b (w := w) (Nat.le_refl _) X D _ (.deferred none) (by omega) hX rfl rfl
    by_cases hlt : (lookN m day : Int) < m.2
    · have hs : saysM m h day = (0, false) := by unfold saysM; rw [if_pos hlt]
      have HS := Lib.hid hs
      clear hs
      gi_wp2
      refine ⟨by simp, .inl ⟨_, _, rfl, run_takeDeferred hK, ?_⟩⟩
      refine ⟨.tuple #[.int .i64 0, .bool false], by simp [results, Try.f81, go_sem], by rw [HS.out], hB.trans (hbD _ hK)⟩
    · have hn : lookN m day = m.2.toNat := by
        have : lookN m day ≤ m.2.toNat := by unfold lookN; split <;> omega
        omega
      have hs : saysM m h day = (sayV m.1 (soldL m h day), true) := by unfold saysM; rw [if_neg hlt]
      have HS := Lib.hid hs
      have hn' : (m.2 ≤ (lookN m day : Int)) := by omega
      have hsl := soldL_len m h day
      have hp : 0 < (soldL m h day).length := by omega
      have hbd : ∀ x ∈ soldL m h day, 0 ≤ x ∧ x ≤ 10000 := by
        intro x hx
        simp only [soldL, List.mem_map] at hx
        obtain ⟨y, _, rfl⟩ := hx
        exact soldAt_bd HD.out y
      have hsD : Sl encInt 1 W W.heap.size A1 (soldL m h day) := by
        refine Sl.of_own (base := W0.heap.size) (e := 3) (c := cc) (fun _ => rfl) ?_
        rw [hsl]
        have : (soldL m h day).flatMap encInt = (soldL m h day).map (Value.int .i64) := by
          induction soldL m h day with
          | nil => rfl
          | cons x l ih => rw [List.flatMap_cons, ih]; rfl
        rw [this]; exact hrow
      have HBD := Lib.hid hbd
      have HSD := Lib.hid hsD
      have HN := Lib.hid hn
      clear hs hbd hsD hn
      have hmx : Try.prog.follows .mixedOrders = true := by kernel_rfl
      have hDl : D < W.heap.size := (Array.getElem?_eq_some_iff.1 hK).1
      obtain ⟨f, hen, hix, H⟩ : ∃ f : FuncId, (∀ args X, (callFunc f args).run Try.prog X = .ok (.enter f args) X) ∧ (∀ X, (Instr.index 200 (.agg #[.nilFunc, .func (.func 139) #[] #[], .func (.func 140) #[] #[], .func (.func 140) #[] #[], .func (.func 141) #[] #[]]) (.int .i64 m.1)).run Try.prog X = .ok (.func (.func f) #[] #[]) X) ∧
          ∀ W1, Below W.drew.heap.size W.drew W1 → Calls Try.prog f #[.agg #[.int .i64 m.1, .int .i64 m.2], .slice A1 (lookN m day) cc] W1 fun e w' => e = .returned (.int .i64 (sayV m.1 (soldL m h day))) ∧ Below W1.heap.size W1 w' := by
        rcases (show m.1 = 1 ∨ m.1 = 2 ∨ m.1 = 3 ∨ m.1 = 4 by omega) with h1 | h1 | h1 | h1
        · refine ⟨139, enters_of Try.func139 (by kernel_rfl) rfl, fun X => by rw [h1]; exact idx1 X, fun W1 hb => ?_⟩
          have h0 := last_any (1, m.2) A1 cc (soldL m h day) W1 (by omega) ((Sl.below (w := W.drew) HSD.out hb).mono hb.size) hp
          rw [hsl] at h0
          rw [h1]
          refine h0.mono ?_
          rintro e w' ⟨rfl, hb'⟩
          exact ⟨ret_int (by simp [sayV, hsl]), hb'⟩
        · refine ⟨140, enters_of Try.func140 (by kernel_rfl) rfl, fun X => by rw [h1]; exact idx2 X, fun W1 hb => ?_⟩
          have h0 := mean_any (2, m.2) A1 cc (soldL m h day) W1 (by omega) ((Sl.below (w := W.drew) HSD.out hb).mono hb.size) hp HBD.out
          rw [hsl] at h0
          rw [h1]
          refine h0.mono ?_
          rintro e w' ⟨rfl, hb'⟩
          exact ⟨ret_int (by simp [sayV, hsl]), hb'⟩
        · refine ⟨140, enters_of Try.func140 (by kernel_rfl) rfl, fun X => by rw [h1]; exact idx3 X, fun W1 hb => ?_⟩
          have h0 := mean_any (3, m.2) A1 cc (soldL m h day) W1 (by omega) ((Sl.below (w := W.drew) HSD.out hb).mono hb.size) hp HBD.out
          rw [hsl] at h0
          rw [h1]
          refine h0.mono ?_
          rintro e w' ⟨rfl, hb'⟩
          exact ⟨ret_int (by simp [sayV, hsl]), hb'⟩
        · refine ⟨141, enters_of Try.func141 (by kernel_rfl) rfl, fun X => by rw [h1]; exact idx4 X, fun W1 hb => ?_⟩
          have h0 := greatest_any (4, m.2) A1 cc (soldL m h day) W1 (by omega) ((Sl.below (w := W.drew) HSD.out hb).mono hb.size) hp
          rw [hsl] at h0
          rw [h1]
          refine h0.mono ?_
          rintro e w' ⟨rfl, hb'⟩
          exact ⟨ret_int (by simp [sayV, hsl]), hb'⟩
      have HH := Lib.hid H
      clear H
      gi_wp2
      refine wpIn_calm ?_
      gi_cut [6, 7] from 8 (fun v u wr => v = .int .i64 (sayV m.1 (soldL m h day)) ∧ u = .bool true ∧ Below W.heap.size W.drew wr)
      case first =>
       have l0 := hBm.lt
       have l2 := hv.lt
       rename_i Qq rr Kk ak Jj Kj aj aj2
       clear hbD hml hlk hn' hsl hp HA HD HI HS HBD HSD HN hrow hBm hv b1 b2 bM bH bS hz hB0 hBh hWz hD hDl hK hz0 hz1 hz2 hl hd0 hd1 hm1 hm2 hm3 hm4 hlt ak rr hB
       clear Kk Qq
       gi_region_with_o (first
         | (refine ⟨trivial, ?_⟩
            gi_at_call 118
            refine (callsIn_wide.2 (saysArr_any _)).mono ?_
            rintro e w1 ⟨rfl, hb1⟩
            have hcM1 := ((hb1.cell (p := ⟨w.heap.size, 0, none⟩) l0)).trans hcM
            have hcN1 := ((hb1.cell (p := ⟨w.heap.size, 1, none⟩) l0)).trans hcN
            have hcS1 := ((hb1.cell (p := ⟨w.heap.size + 1 + 1, 0, none⟩) l2)).trans hcS)
         | (refine ⟨trivial, ?_⟩
            refine (callsIn_wide.2 (HH.out _ hb1)).mono ?_
            rintro e w2 ⟨rfl, hb2⟩
            have hb12 := hb1.trans (hb2.mono hb1.size)))
       all_goals gi_wp2
       all_goals gi_meet
       all_goals exact ⟨rfl, rfl, hb12⟩
      case rest =>
       obtain ⟨rfl, rfl, hb12⟩ := hcut
       have hK' : wc.heap[D]? = some (.deferred (some [])) := (hb12.block D hDl).trans hK
       gi_wp2
       refine ⟨by simp, .inl ⟨_, _, rfl, run_takeDeferred hK', ?_⟩⟩
       refine ⟨.tuple #[.int .i64 (sayV m.1 (soldL m h day)), .bool true], by simp [results, Try.f81, go_sem], by rw [HS.out], (hB.drew.trans (hb12.mono hB.size)).trans (hbD _ hK')⟩
  case stop =>
    rintro D c pre W _ _ h _
    exact h.elim
end Go.Proofs.Ytgopdfbmddkpfaa
