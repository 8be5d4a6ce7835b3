/- Contracts of Collect over the splices of a web, and of Splices; conditions: a press in memory. -/
import Derived.Test.YtnbnfadmbggfnaaCC
set_option linter.unusedSimpArgs false
set_option linter.unusedVariables false
namespace Go.Rl
open Go.Fh Go.RowKit
theorem rnd_int {lo d g w : Nat} {W W2 W' : Go.World} {v : Go.Value} {xs : List Go.Value} {n : Nat} (hg2 : W.grownBy W2 (some (d + 1))) (hk : Keeps W2 W' g v) (hrow : W2.ownsRow w 3 1 v n xs) (hd : ∀ r, d ≤ r → r ≤ d + 2 → v.ownBlock ≠ some r)
    (hlo : lo ≤ w) (hw : w ≤ g) (hgd : g < d) (hsz : d + 2 < W.heap.size) :
    Two d W2 W' ∧ KpI lo (d + 2) W W' ∧ Below w W W' := by
  have hs2 := hg2.size
  have hown : ∀ j, v.ownBlock = some j → w ≤ j := fun j e => (own_at hrow e).2
  have hbl : Below w W W' := by
    refine ⟨hk.os.trans hg2.os, hk.tape.trans hg2.tape, hk.output.trans hg2.output, Nat.le_trans hs2 hk.size, fun j hj => ?_⟩
    rw [hk.block j (by omega) (by omega) (fun e => by have := hown j e; omega), hg2.block j (by omega) (fun e => by injection e with e; omega)]
  refine ⟨⟨hk.block d (by omega) (by omega) (hd _ (by omega) (by omega)), hk.block (d + 1) (by omega) (by omega) (hd _ (by omega) (by omega))⟩, ⟨hbl.mono hlo, fun j cs hj hcs => ?_⟩, hbl⟩
  have hjl : j < W.heap.size := hcs.lt
  have h2 : W2.heap[j]? = some (.cells cs 54 (0, 0)) := (hg2.block j hjl (fun e => by injection e with e; omega)).trans hcs
  refine (hk.block j (by omega) (by omega) (fun e => ?_)).trans h2
  obtain ⟨⟨cs', hcs'⟩, _⟩ := own_at hrow e
  rw [h2] at hcs'
  injection hcs' with hcs'
  injection hcs' with _ e _
  exact absurd e (by decide)
theorem app_int {W2 wB w9 : Go.World} {w g : Nat} {vv v9 : Go.Value} {nL : Nat} {xs : List Go.Value} {cs : Array Go.Value} (hb : Below W2.heap.size W2 wB) (hbx : Go.Boxed W2 g 47 vv) (hrow : W2.ownsRow w 3 1 vv nL xs) (hg : (wB.alloc (.cells cs 3)).grownBy w9 vv.ownBlock) :
    Go.Boxed w9 g 47 vv ∧ Keeps W2 (w9.setCell ⟨g, 0, none⟩ v9) g vv := by
  have hne : some g ≠ vv.ownBlock := hbx.not_row (by decide) hrow
  have h1 : Below W2.heap.size W2 (wB.alloc (.cells cs 3)) := balR hb _
  have hk : ∀ j, j < W2.heap.size → vv.ownBlock ≠ some j → w9.heap[j]? = W2.heap[j]? := fun j hj hv => by
    rw [hg.block j (Nat.lt_of_lt_of_le hj h1.size) (fun e => hv e.symm), h1.block j hj]
  refine ⟨?_, hg.os.trans h1.os, hg.tape.trans h1.tape, hg.output.trans h1.output, ?_, fun j hj h2 h3 => ?_⟩
  · exact (hk _ hbx.lt (fun e => hne e.symm)).trans hbx
  · have := h1.size; have := hg.size; simp [Go.World.setCell]; omega
  · rw [Below.heap_setCell w9 _ v9 j (by exact h2)]; exact hk j hj h3
/-- between two splices: the row of places and its box -/
def ISeq (B : Nat) (w : Go.World) (d : Nat) (pre : List Int) (W : Go.World) : Prop :=
  ∃ vv, Go.Boxed W B 47 vv ∧ W.ownsRow B 3 1 vv pre.length (pre.map (Go.Value.int .i64)) ∧ (∀ r, d ≤ r → r ≤ d + 2 → vv.ownBlock ≠ some r) ∧ Below B w W
def splO (p : PrsD) (web : Int) : List Int × Int :=
  if errP p ≠ 0 then ([], errP p) else if inB web 0 ((p.webs.length : Int) - 1) = false then ([], 1) else (plcs (p.webs.getD web.toNat web0).reels, 0)
end Go.Rl
namespace Go.Proofs.Ytnbnfadmbggfnaa
open Go.RowKit Go.Fh Go.Rl Go.Shelf
attribute [local go_sem] Oper.semAt_some
set_option maxRecDepth 100000 in
set_option maxHeartbeats 4000000 in
theorem appseq_any (v : WebD) (A : Option Addr) (c gW : Nat) (wb w : World) (hv : WebOk v) (hA : Sl encReel 4 wb wb.heap.size A v.reels) (hw : Below wb.heap.size wb w) (hG : Blk w gW 41 #[.slice A v.reels.length c, .int .i64 v.off, .int .i64 v.bef, .int .i64 v.aft]) :
    Calls Try.prog 94 #[.slice none 0 0, .func (.func 95) #[] #[.pointer (some ⟨gW, 0, none⟩)]] w fun e w' => ∃ A' c', e = .returned (.slice A' (plcs v.reels).length c') ∧ Hid (Sl encInt 1 w' w'.heap.size A' (plcs v.reels)) ∧ Hid (Below w.heap.size w w') := by
  obtain ⟨w1, hw1⟩ : ∃ W, W = w.alloc (.cells #[.slice none 0 0] 47) := ⟨_, rfl⟩
  obtain ⟨B, hB⟩ : ∃ g, g = w.heap.size := ⟨_, rfl⟩
  have hs1 : w1.heap.size = B + 1 := by rw [hw1, hB]; simp
  have hb1 : Below w.heap.size w w1 := by rw [hw1]; exact balR (Below.refl _ _) _
  have k2 : Boxed w1 B 47 (.slice none 0 0) := by rw [hw1, hB]; exact Blk.new w 47 _
  have kW : Blk w1 gW 41 #[.slice A v.reels.length c, .int .i64 v.off, .int .i64 v.bef, .int .i64 v.aft] := by rw [hw1]; exact hG.alloc _
  have hsz0 := hw.size
  have HSEQ := Lib.hid (splices_in 2 (by omega) v A c gW wb w1 hv hA (hw.trans (hb1.mono hw.size)) kW (fun x => True) (fun i hi => trivial))
  have hpl : (plcs v.reels).length ≤ 19 := by
    have := hv.n
    have h2 : (plcs v.reels).length = v.reels.length - 1 := by unfold plcs; exact upF_len _ _
    omega
  have hrl := hv.n
  have HW1 := Lib.hid hw1
  have HB1 := Lib.hid hb1
  have HBB := Lib.hid hB
  have HS1 := Lib.hid hs1
  have HK2 := Lib.hid k2
  have hlo : wb.heap.size ≤ B := by omega
  clear hw1 hB hs1 hb1 k2 kW hv hA hw hG hsz0
  obtain ⟨i0, hi, hz0, hz1, hz2⟩ := info_parts infoInt
  have HI := Lib.hid hi
  clear hi
  refine (callsIn_wide (n := 3)).1 ?_
  refine callsIn_of_wp_marks Try.func94 rfl trivial ?_ rfl
  simp only [Try.ntmps94, List.size_toArray, List.length_cons, List.length_nil, Nat.reduceAdd, Nat.reduceSub, Array.replicate_succ, Array.replicate_zero, List.push_toArray, List.append_toArray, List.nil_append, List.cons_append]
  gi_upto_region 1 with fail
  rw [← HW1.out, ← HBB.out]
  gi_wp2
  refine range_cell rfl (by omega) (gf := 95) (lb := #[.pointer (some ⟨gW, 0, none⟩)]) rfl trivial (enters_of Try.func95 (by kernel_rfl) rfl)
    HSEQ.out (Below.refl _ _) (fun _ => rfl) ?kl (ISeq B w w1.heap.size) (fun _ _ _ => False) ?hI (fun _ _ _ _ _ _ _ h _ => h) ⟨_, HK2.out, World.ownsRow_nil _ _ _ _, fun r _ _ => by simp [Value.ownBlock], by rw [HBB.out]; exact HB1.out⟩ ?round ?done (fun _ _ _ _ h _ => h.elim)
  case kl =>
    rintro X Y Z hsz ⟨h1, h2⟩ hg
    have h4 := HS1.out
    have h5 := h1.size
    exact ⟨h1.grown hg (by omega) (fun j hj => by injection hj with hj; omega), fun g cs hg2 hk => (h2 g cs hg2 hk).grown hg (fun e => by injection e with e; omega)⟩
  case hI =>
    rintro s X Y r h1 h2 ⟨vv, q1, q2, q3, q4⟩ hg
    have h4 := HS1.out
    have h5 := HBB.out
    exact ⟨vv, q1.kept hg (fun e => by injection e with e; omega), q2.kept hg (.inr (q3 r h1 h2)), q3, q4.grown hg (by have := q4.size; omega) (fun j hj => by injection hj with hj; omega)⟩
  case round =>
    rintro l pre x W - ⟨vv, q1, q2, q3, q4⟩ hlen hsz
    dsimp only [encsI]
    gi_wp2
    refine ⟨⟨rfl, rfl⟩, fun W2 hg2 hs2 => ?_⟩
    obtain ⟨d, hd⟩ : ∃ d, d = w1.heap.size := ⟨_, rfl⟩
    rw [← hd] at q3 hsz hg2 ⊢
    have hdB : d = B + 1 := by rw [hd, HS1.out]
    have b5 : Boxed W2 B 47 vv := q1.kept hg2 (fun e => by injection e with e; omega)
    have row2 : W2.ownsRow B 3 1 vv pre.length (pre.map (Value.int .i64)) := q2.kept hg2 (.inr (q3 (d + 1) (by omega) (by omega)))
    obtain ⟨A1, c1, hvv⟩ := own_shape row2
    subst hvv
    have e5 := b5.cell
    have hm1 : pre.length + 1 ≤ maxLen := by simp only [maxLen]; omega
    have hm2 : (pre.length + 1) * 8 ≤ 140737488355328 := by omega
    have HM3 := Lib.hid (show B ≤ (W2.alloc (.cells #[.int .i64 x] 3)).heap.size from by have := b5.lt; simp; omega)
    have HE := Lib.hid (show ∀ (W' : World) (vv' : Value), Keeps W2 W' B (.slice A1 pre.length c1) → Boxed W' B 47 vv' → W'.ownsRow B 3 1 vv' (pre ++ [x]).length ((pre ++ [x]).map (Value.int .i64)) → (∀ r, d ≤ r → r ≤ d + 2 → vv'.ownBlock ≠ some r) → Two d W2 W' ∧ KpI wb.heap.size (d + 2) W W' ∧ ISeq B w d (pre ++ [x]) W' from fun W' vv' h1 h2 h3 h4 => by
      have h := rnd_int (lo := wb.heap.size) (w := B) hg2 h1 row2 q3 hlo (Nat.le_refl _) (by omega) hsz
      exact ⟨h.1, h.2.1, vv', h2, h3, h4, q4.trans h.2.2⟩)
    have HB5 := Lib.hid b5
    have HROW := Lib.hid row2
    have HQ3 := Lib.hid q3
    have hgw2 : d + 2 < W2.heap.size := by omega
    clear q1 q2 q3 q4 b5 row2 hg2 hs2 hsz hlen hd
    gi_wp2_with (gi_at_builtin; refine wpListIn_append_own_at _ rfl (.tmp 8) (.tmp 10) 47 rfl B 3 i0 _ 1 8 Try.underlying47 HI.out hz0 hz1 hz2 rfl (by decide) (.slice A1 pre.length c1) pre.length (pre.map (Value.int .i64)) rfl (HROW.out.alloc _) ⟨W2.heap.size, 0, none⟩ 1 1 [.int .i64 x] rfl rfl (news_of1 W2 3 #[.int .i64 x]) (by intro u hu; simp at hu; subst hu; rfl) hm1 hm2 HM3.out ?_; intro v9 w9 hown9 hgrow9 hiff9 hat9; obtain ⟨g9, c9, hv9⟩ := ownsRow_succ hown9; subst hv9; have h9 := app_int (v9 := .slice (some ⟨g9, 0, none⟩) (pre.length + 1) c9) (Below.refl _ _) HB5.out HROW.out hgrow9; have e9 := h9.1.cell; have f9 := h9.1.frozen; have H9 := Lib.hid h9; have HO9 := Lib.hid hown9; have HAT := Lib.hid hat9; clear h9 hown9 hgrow9 hiff9 hat9)
    refine HE.out _ (.slice (some ⟨g9, 0, none⟩) (pre.length + 1) c9) H9.out.2 (H9.out.1.set _) ?_ (fun r h1 h2 e => ?_)
    · rw [List.length_append, List.map_append]
      exact HO9.out.kept (grownBy_setCell' w9 B _) (.inr (fun e => H9.out.1.not_row (by decide) HO9.out e.symm))
    · rcases HAT.out with h | h
      · rw [h] at e; exact HQ3.out r h1 h2 e
      · rw [h] at e
        injection e with e
        simp at e
        omega
  case done =>
    rintro xs W rfl ⟨vv, q1, q2, q3, q4⟩ hK
    obtain ⟨A1, c1, hv⟩ := own_shape q2
    subst hv
    have e8 := q1.cell
    have hbD : Below B W (W.putObj w1.heap.size (.deferred none)) := by
      refine ⟨rfl, rfl, rfl, by simp [World.putObj], fun j hj => ?_⟩
      exact World.putObj_heap_other (by have := HS1.out; omega)
    have HQ4 := Lib.hid (q4.trans hbD)
    have HOW := Lib.hid (ownsRow_putObj q2 (.deferred none) hK rfl)
    clear q1 q2 q3 q4 hbD
    gi_wp2
    refine ⟨by simp, .inl ⟨_, _, rfl, run_takeDeferred hK, ?_⟩⟩
    refine ⟨.slice A1 (plcs v.reels).length c1, by simp [results, Try.f94, go_sem], ⟨A1, c1, rfl, Lib.hid (own_sl HOW.out), ?_⟩⟩
    rw [← HBB.out]; exact HQ4
theorem collect_any (v : WebD) (A : Option Addr) (c gW : Nat) (wb w : World) (hv : WebOk v) (hA : Sl encReel 4 wb wb.heap.size A v.reels) (hw : Below wb.heap.size wb w) (hG : Blk w gW 41 #[.slice A v.reels.length c, .int .i64 v.off, .int .i64 v.bef, .int .i64 v.aft]) :
    Calls Try.prog 49 #[.func (.func 95) #[] #[.pointer (some ⟨gW, 0, none⟩)]] w fun e w' => ∃ A' c', e = .returned (.slice A' (plcs v.reels).length c') ∧ Hid (Sl encInt 1 w' w'.heap.size A' (plcs v.reels)) ∧ Hid (Below w.heap.size w w') := by
  have HC := Lib.hid (appseq_any v A c gW wb w hv hA hw hG)
  clear hv hA hw hG
  go_enter Try.func49, Try.ntmps49
  go_wp2_with (go_at_call 94; refine HC.out.mono ?_; rintro e w2 ⟨A', c', rfl, HS, HB⟩)
  go_ret
  exact ⟨A', c', rfl, HS, HB⟩
end Go.Proofs.Ytnbnfadmbggfnaa
