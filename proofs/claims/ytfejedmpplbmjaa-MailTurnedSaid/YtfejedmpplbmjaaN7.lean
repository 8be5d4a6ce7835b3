/- The contract of counts; conditions: a run in memory. Printed by a program. -/
import Derived.Test.YtfejedmpplbmjaaN6
import Derived.Test.YtfejedmpplbmjaaM6
import Derived.Shelf.Abstract
import Derived.OwnWalkIn
import Derived.TacticsInMore
import Derived.LoopNIn
import Derived.LoopIn
import Derived.RangeFuncCalls
import Derived.Sort.CutIn
set_option linter.unusedSimpArgs false
set_option linter.unusedVariables false
namespace Go.Ml
open Go.RowKit Go.Fh
/-- two rows in the making, and their boxes -/
structure TwoR (W : World) (B g gp gs nh : Nat) (f1 f2 : Nat → Int) : Prop where
  kB : Blk W B 107 #[.pointer (some ⟨g, 0, none⟩)]
  k1 : Blk W (B + 1) 22 #[.slice (some ⟨gp, 0, none⟩) nh nh]
  k2 : Blk W (B + 1 + 1) 22 #[.slice (some ⟨gs, 0, none⟩) nh nh]
  r1 : RowF W gp f1 nh
  r2 : RowF W gs f2 nh
  hp : B + 3 ≤ gp
  hs : B + 3 ≤ gs
  ne : gp ≠ gs
theorem TwoR.below {W W' : World} {B g gp gs nh : Nat} {f1 f2 : Nat → Int} (h : TwoR W B g gp gs nh f1 f2) (hb : Below W.heap.size W W') : TwoR W' B g gp gs nh f1 f2 :=
  ⟨h.kB.below hb h.kB.lt, h.k1.below hb h.k1.lt, h.k2.below hb h.k2.lt, h.r1.below hb, h.r2.below hb, h.hp, h.hs, h.ne⟩
theorem TwoR.grown {W W' : World} {B g gp gs nh : Nat} {f1 f2 : Nat → Int} {r : Nat} (h : TwoR W B g gp gs nh f1 f2) (hg : W.grownBy W' (some r)) (h1 : gp < r) (h2 : gs < r) : TwoR W' B g gp gs nh f1 f2 := by
  have := h.hp
  exact ⟨h.kB.grown hg (fun e => by injection e with e; omega), h.k1.grown hg (fun e => by injection e with e; omega), h.k2.grown hg (fun e => by injection e with e; omega), h.r1.grown hg (fun e => by injection e with e; omega), h.r2.grown hg (fun e => by injection e with e; omega), h.hp, h.hs, h.ne⟩
theorem TwoR.drew {W : World} {B g gp gs nh : Nat} {f1 f2 : Nat → Int} (h : TwoR W B g gp gs nh f1 f2) : TwoR W.drew B g gp gs nh f1 f2 := h.below (Below.refl _ _).drew
theorem TwoR.put_other {W : World} {B g gp gs nh q : Nat} {f1 f2 : Nat → Int} {o : Obj} (h : TwoR W B g gp gs nh f1 f2) (h1 : gp < q) (h2 : gs < q) : TwoR (W.putObj q o) B g gp gs nh f1 f2 := by
  have hp := h.hp
  exact ⟨(World.putObj_heap_other (by omega)).trans h.kB, (World.putObj_heap_other (by omega)).trans h.k1, (World.putObj_heap_other (by omega)).trans h.k2, (World.putObj_heap_other (by omega)).trans h.r1, (World.putObj_heap_other (by omega)).trans h.r2, h.hp, h.hs, h.ne⟩
theorem TwoR.congr {W : World} {B g gp gs nh : Nat} {f1 f2 h1 h2 : Nat → Int} (h : TwoR W B g gp gs nh f1 f2) (e1 : ∀ i, i < nh → f1 i = h1 i) (e2 : ∀ i, i < nh → f2 i = h2 i) : TwoR W B g gp gs nh h1 h2 :=
  ⟨h.kB, h.k1, h.k2, h.r1.congr e1, h.r2.congr e2, h.hp, h.hs, h.ne⟩
theorem TwoR.setP {W : World} {B g gp gs nh : Nat} {f1 f2 : Nat → Int} (h : TwoR W B g gp gs nh f1 f2) (i : Nat) (v : Int) : TwoR (W.setCell ⟨gp, i, none⟩ (.int .i64 v)) B g gp gs nh (fun j => if j = i then v else f1 j) f2 := by
  have h1 := h.hp
  have h2 := h.ne
  exact ⟨h.kB.far (by dsimp only; omega) _, h.k1.far (by dsimp only; omega) _, h.k2.far (by dsimp only; omega) _, h.r1.set_ i v, h.r2.far (by dsimp only; omega) _, h.hp, h.hs, h.ne⟩
theorem TwoR.setQ {W : World} {B g gp gs nh : Nat} {f1 f2 : Nat → Int} (h : TwoR W B g gp gs nh f1 f2) (i : Nat) (v : Int) : TwoR (W.setCell ⟨gs, i, none⟩ (.int .i64 v)) B g gp gs nh f1 (fun j => if j = i then v else f2 j) := by
  have h1 := h.hs
  have h2 := h.ne
  exact ⟨h.kB.far (by dsimp only; omega) _, h.k1.far (by dsimp only; omega) _, h.k2.far (by dsimp only; omega) _, h.r1.far (by dsimp only; omega) _, h.r2.set_ i v, h.hp, h.hs, h.ne⟩
theorem mk_new (W : World) (g n : Nat) (hg : g = W.heap.size) : RowF (W.alloc (.cells (madeCells #[.int .i64 0] n) 3)) g (fun _ => 0) n := by
  subst hg
  refine rowF_repl ?_
  rw [← toList_madeCells_one]
  exact Blk.new W 3 _
theorem mk_newA (W : World) (n : Nat) : RowF (W.alloc (.cells (madeCells #[.int .i64 0] n) 3)) W.heap.size (fun _ => 0) n := mk_new W _ n rfl
theorem mk_newB (W : World) (o : Obj) (n : Nat) : RowF ((W.alloc o).alloc (.cells (madeCells #[.int .i64 0] n) 3)) (W.heap.size + 1) (fun _ => 0) n := mk_new _ _ n (by simp)
theorem mk_newC (W : World) (o : Obj) (p : Addr) (u : Value) (n : Nat) : RowF (((W.alloc o).setCell p u).alloc (.cells (madeCells #[.int .i64 0] n) 3)) (W.heap.size + 1) (fun _ => 0) n := mk_new _ _ n (by simp [World.setCell])
theorem RowF.alloc {W : World} {g n : Nat} {f : Nat → Int} (h : RowF W g f n) (o : Obj) : RowF (W.alloc o) g f n := Blk.alloc h o
theorem blk_set1 {W : World} {b t : Nat} {a : Value} (h : Blk W b t #[a]) (u : Value) : Blk (W.setCell ⟨b, 0, none⟩ u) b t #[u] := h.set_ 0 u
theorem TwoR.put1 {W : World} {B g gp gs nh : Nat} {f1 f2 : Nat → Int} (h : TwoR W B g gp gs nh f1 f2) : TwoR (W.setCell ⟨B + 1, 0, none⟩ (.slice (some ⟨gp, 0, none⟩) nh nh)) B g gp gs nh f1 f2 := by
  have h1 := h.hp
  have h2 := h.hs
  exact ⟨h.kB.far (by dsimp only; omega) _, blk_set1 h.k1 _, h.k2.far (by dsimp only; omega) _, h.r1.far (by dsimp only; omega) _, h.r2.far (by dsimp only; omega) _, h.hp, h.hs, h.ne⟩
theorem TwoR.put2 {W : World} {B g gp gs nh : Nat} {f1 f2 : Nat → Int} (h : TwoR W B g gp gs nh f1 f2) : TwoR (W.setCell ⟨B + 1 + 1, 0, none⟩ (.slice (some ⟨gs, 0, none⟩) nh nh)) B g gp gs nh f1 f2 := by
  have h1 := h.hp
  have h2 := h.hs
  exact ⟨h.kB.far (by dsimp only; omega) _, h.k1.far (by dsimp only; omega) _, blk_set1 h.k2 _, h.r1.far (by dsimp only; omega) _, h.r2.far (by dsimp only; omega) _, h.hp, h.hs, h.ne⟩
end Go.Ml
namespace Go.Proofs.Ytfejedmpplbmjaa
open Go.RowKit Go.Fh Go.Ml Go.Shelf
attribute [local go_sem] Oper.semAt_some
set_option maxRecDepth 100000 in
set_option maxHeartbeats 8000000 in
theorem counts_any (d : LnD) (x : LA) (zs : List Int) (zA : Option Addr) (zc : Nat) (fs : List (Int × Int × Bool)) (g : Nat) (w : World) (h : RunM d x zs zA zc fs g w) (hch : chkL d = 0) (hzr : ∀ z ∈ zs, 0 ≤ z ∧ z < (d.zones.length : Int)) (bt b nh : Nat) (hbt : d.batch = (bt : Int)) (hnh : nh = d.hops.length) (hz : zs.length ≤ 1000000) (hbb : b ≤ 1000000) :
    Calls Try.prog 50 #[.pointer (some ⟨g, 0, none⟩), .int .i64 (b : Int)] w fun e w' => ∃ gp gs, e = .returned (.tuple #[.slice (some ⟨gp, 0, none⟩) nh nh, .slice (some ⟨gs, 0, none⟩) nh nh]) ∧ w.heap.size ≤ gp ∧ w.heap.size ≤ gs ∧ Hid (RowF w' gp (cntS d zs (putS fs) (batS bt zs.length b)) nh) ∧ Hid (RowF w' gs (cntS d zs (fun _ _ => 1) (batS bt zs.length b)) nh) ∧ Hid (Below w.heap.size w w') := by
  have hck := chk_ok hch
  have hb1 : 1 ≤ bt ∧ bt ≤ 1000 := by have := hck.2.2.1; omega
  have hnb : 1 ≤ nh ∧ nh ≤ 8 := by have := hck.1; omega
  have HFL := Lib.hid (fds_len hch)
  have HFM := Lib.hid (fds_mem hch)
  obtain ⟨hgw, gM, m, hm, hW⟩ := id h
  obtain ⟨B, hB⟩ : ∃ q, q = w.heap.size := ⟨_, rfl⟩
  obtain ⟨w1, hw1⟩ : ∃ W, W = ((w.alloc (.cells #[.pointer (some ⟨g, 0, none⟩)] 107)).alloc (.cells #[.slice none 0 0] 22)).alloc (.cells #[.slice none 0 0] 22) := ⟨_, rfl⟩
  have hs1 : w1.heap.size = B + 3 := by rw [hw1, hB]; simp
  have hb1w : Below w.heap.size w w1 := by rw [hw1]; repeat (with_reducible first | exact Below.refl _ _ | refine balR ?_ _)
  have kB : Blk w1 B 107 #[.pointer (some ⟨g, 0, none⟩)] := by rw [hw1, hB]; exact ((Blk.new w 107 _).alloc _).alloc _
  have k1 : Blk w1 (B + 1) 22 #[.slice none 0 0] := by rw [hw1, hB]; exact (blkAt (by simp) 22 _).alloc _
  have k2 : Blk w1 (B + 1 + 1) 22 #[.slice none 0 0] := by rw [hw1, hB]; exact blkAt (by simp) 22 _
  have HW1 := Lib.hid hw1
  have HBB := Lib.hid hB
  have HL1 := Lib.hid (show w.heap.size ≤ B + 1 by omega)
  have HL2 := Lib.hid (show w.heap.size ≤ B + 1 + 1 by omega)
  have HS1Z := Lib.hid hs1
  have HB1 := Lib.hid hb1w
  have HKB := Lib.hid kB
  have HK1 := Lib.hid k1
  have HK2 := Lib.hid k2
  have HRUN := Lib.hid h
  have HW := Lib.hid hW
  have HBT := Lib.hid hbt
  have HZR := Lib.hid hzr
  have HNH := Lib.hid hnh
  have HS1 := Lib.hid (show ∀ W, Below w.heap.size w W → Blk W B 107 #[.pointer (some ⟨g, 0, none⟩)] → W.cell? ⟨B, 0, none⟩ = some (.pointer (some ⟨g, 0, none⟩)) ∧ W.cell? ⟨g, 0, none⟩ = some (.slice x.a nh x.ca) from fun W hb kB => by
    have e1 := kB.cell 0
    simp at e1
    have e2 := (hW W hb).2.2.1.1
    rw [← hnh] at e2
    exact ⟨e1, e2⟩)
  have hmk := fun W => run_make_row' (P := Try.prog) 22 3 (.int .i64 0) 8 Try.underlying22 infoIntT rfl .i64 .i64 nh (by omega) (by omega) W
  clear hck hm hW hB hw1 hs1 hb1w kB k1 k2 h hzr hbt hnh
  refine (callsIn_wide (n := 3)).1 ?_
  refine callsIn_of_wp_marks Try.func50 rfl trivial ?_ rfl
  simp only [Try.ntmps50, List.size_toArray, List.length_cons, List.length_nil, Nat.reduceAdd, Nat.reduceSub, Array.replicate_succ, Array.replicate_zero, List.push_toArray, List.append_toArray, List.nil_append, List.cons_append]
  gi_upto_region 1 with fail
  rw [← HW1.out, ← HBB.out]
  gi_cut [] from 9 (fun wx => ∃ gp gs, Hid (TwoR wx B g gp gs nh (fun _ => 0) (fun _ => 0)) ∧ Hid (Below w.heap.size w wx))
  case first =>
    refine wpIn_wide.2 ?_
    refine wp_region_noPanic ?_
    refine wp_region_held_drew (S := (fun W => W.cell? ⟨B, 0, none⟩ = some (.pointer (some ⟨g, 0, none⟩)) ∧ W.cell? ⟨g, 0, none⟩ = some (.slice x.a nh x.ca))) (by kernel_rfl) ?_ (fun hHeld => ?_)
    · (try dsimp only); (exact HS1.out _ (by repeat (with_reducible first | exact HB1.out | refine Below.drew ?_ | refine balR ?_ _ | refine bset ?_ HL1.out _ _ | refine bset ?_ HL2.out _ _)) (by repeat (with_reducible first | exact HKB.out | refine Blk.drew ?_ | refine Blk.alloc ?_ _ | refine Blk.far ?_ (by dsimp only; omega) _)))
    refine wpAnyH_takeD (i := 0) (v := ?_) (some 9) rfl rfl (by kernel_rfl) (by kernel_rfl) (by kernel_rfl) (fun _ _ _ h => h) (Or.inl ⟨by rfl, ?_⟩) (by assumption) ?_
    rotate_left
    · intro w hSw; (try dsimp only at hSw); go_simp; (try with_reducible rfl)
    try simp only [Act.put, List.setIfInBounds_toArray, List.set_cons_zero, List.set_cons_succ]
    refine wpAnyH_takeD (i := 1) (v := ?_) (some 10) rfl rfl (by kernel_rfl) (by kernel_rfl) (by kernel_rfl) (fun _ _ _ h => h) (Or.inl ⟨by rfl, ?_⟩) (by assumption) ?_
    rotate_left
    · intro w hSw; (try dsimp only at hSw); go_simp; (try with_reducible rfl)
    try simp only [Act.put, List.setIfInBounds_toArray, List.set_cons_zero, List.set_cons_succ]
    refine wpAnyH_takeD (i := 2) (v := ?_) (some 11) rfl rfl (by kernel_rfl) (by kernel_rfl) (by kernel_rfl) (fun _ _ _ h => h) (Or.inl ⟨by rfl, ?_⟩) (by assumption) ?_
    rotate_left
    · intro w hSw; (try dsimp only at hSw); go_simp; (try with_reducible rfl)
    try simp only [Act.put, List.setIfInBounds_toArray, List.set_cons_zero, List.set_cons_succ]
    refine wpAnyH_takeD (i := 3) (v := ?_) (some 12) rfl rfl (by kernel_rfl) (by kernel_rfl) (by kernel_rfl) (fun _ _ _ h => h) (Or.inl ⟨by rfl, ?_⟩) (by assumption) ?_
    rotate_left
    · intro w hSw; (try dsimp only at hSw); go_simp; (try with_reducible rfl)
    try simp only [Act.put, List.setIfInBounds_toArray, List.set_cons_zero, List.set_cons_succ]
    refine wpAnyH_takeD (i := 4) (v := ?_) (some 13) rfl rfl (by kernel_rfl) (by kernel_rfl) (by kernel_rfl) (fun _ _ _ h => h) (Or.inl ⟨by rfl, ?_⟩) (by assumption) ?_
    rotate_left
    · intro w hSw; (try dsimp only at hSw); go_simp; (try with_reducible rfl)
    try simp only [Act.put, List.setIfInBounds_toArray, List.set_cons_zero, List.set_cons_succ]
    refine wpAnyH_takeD (i := 5) (v := ?_) (some 14) rfl rfl (by kernel_rfl) (by kernel_rfl) (by kernel_rfl) (fun _ _ _ h => h) (Or.inl ⟨by rfl, ?_⟩) (by assumption) ?_
    rotate_left
    · intro w hSw; (try dsimp only at hSw); go_simp; (try with_reducible rfl)
    try simp only [Act.put, List.setIfInBounds_toArray, List.set_cons_zero, List.set_cons_succ]
    refine wpAnyH_takeD (i := 7) (v := ?_) (some 16) rfl rfl (by kernel_rfl) (by kernel_rfl) (by kernel_rfl) (fun _ _ _ h => h) (Or.inl ⟨by rfl, ?_⟩) (by assumption) ?_
    rotate_left
    · intro w hSw; (try dsimp only at hSw); go_simp; (try with_reducible rfl)
    try simp only [Act.put, List.setIfInBounds_toArray, List.set_cons_zero, List.set_cons_succ]
    refine wpAnyH_takeD (i := 8) (v := ?_) (some 17) rfl rfl (by kernel_rfl) (by kernel_rfl) (by kernel_rfl) (fun _ _ _ h => h) (Or.inl ⟨by rfl, ?_⟩) (by assumption) ?_
    rotate_left
    · intro w hSw; (try dsimp only at hSw); go_simp; (try with_reducible rfl)
    try simp only [Act.put, List.setIfInBounds_toArray, List.set_cons_zero, List.set_cons_succ]
    refine wpAnyH_takeD (i := 9) (v := ?_) (some 18) rfl rfl (by kernel_rfl) (by kernel_rfl) (by kernel_rfl) (fun _ _ _ h => h) (Or.inl ⟨by rfl, ?_⟩) (by assumption) ?_
    rotate_left
    · intro w hSw; (try dsimp only at hSw); go_simp; (try with_reducible rfl)
    try simp only [Act.put, List.setIfInBounds_toArray, List.set_cons_zero, List.set_cons_succ]
    refine wpAnyH_takeD (i := 10) (v := ?_) (some 19) rfl rfl (by kernel_rfl) (by kernel_rfl) (by kernel_rfl) (fun _ _ _ h => h) (Or.inl ⟨by rfl, ?_⟩) (by assumption) ?_
    rotate_left
    · intro w hSw; (try dsimp only at hSw); go_simp; (try with_reducible rfl)
    try simp only [Act.put, List.setIfInBounds_toArray, List.set_cons_zero, List.set_cons_succ]
    refine wpAnyH_takeD (i := 11) (v := ?_) (some 20) rfl rfl (by kernel_rfl) (by kernel_rfl) (by kernel_rfl) (fun _ _ _ h => h) (Or.inl ⟨by rfl, ?_⟩) (by assumption) ?_
    rotate_left
    · intro w hSw; (try dsimp only at hSw); go_simp; (try with_reducible rfl)
    try simp only [Act.put, List.setIfInBounds_toArray, List.set_cons_zero, List.set_cons_succ]
    refine wpAnyH_takeD (i := 12) (v := ?_) (some 21) rfl rfl (by kernel_rfl) (by kernel_rfl) (by kernel_rfl) (fun _ _ _ h => h) (Or.inl ⟨by rfl, ?_⟩) (by assumption) ?_
    rotate_left
    · intro w hSw; (try dsimp only at hSw); go_simp; (try with_reducible rfl)
    try simp only [Act.put, List.setIfInBounds_toArray, List.set_cons_zero, List.set_cons_succ]
    refine wpAnyH_ready (rs := [6, 13]) (by kernel_rfl) (by simp) ?_
    refine AllReadyH.cons rfl (fun K hK => ?_) (AllReadyH.cons rfl (fun K hK => ?_) AllReadyH.nil)
    · go_simp
      refine hK.out _ _ ?_ (fun hHeld => ?_)
      · (try dsimp only); (exact HS1.out _ (by repeat (with_reducible first | exact HB1.out | refine Below.drew ?_ | refine balR ?_ _ | refine bset ?_ HL1.out _ _ | refine bset ?_ HL2.out _ _)) (by repeat (with_reducible first | exact HKB.out | refine Blk.drew ?_ | refine Blk.alloc ?_ _ | refine Blk.far ?_ (by dsimp only; omega) _)))
      clear hK K
      try simp only [List.getElem_toArray, List.getElem_cons_succ, List.getElem_cons_zero]
      try simp only [Act.put, List.setIfInBounds_toArray, List.set_cons_zero, List.set_cons_succ]
      refine wpAnyH_ready (rs := [13, 14]) (by kernel_rfl) (by simp) ?_
      refine AllReadyH.cons rfl (fun K hK => ?_) (AllReadyH.cons rfl (fun K hK => ?_) AllReadyH.nil)
      · go_simp
        refine hK.out _ _ ?_ (fun hHeld => ?_)
        · (try dsimp only); (exact HS1.out _ (by repeat (with_reducible first | exact HB1.out | refine Below.drew ?_ | refine balR ?_ _ | refine bset ?_ HL1.out _ _ | refine bset ?_ HL2.out _ _)) (by repeat (with_reducible first | exact HKB.out | refine Blk.drew ?_ | refine Blk.alloc ?_ _ | refine Blk.far ?_ (by dsimp only; omega) _)))
        clear hK K
        try simp only [List.getElem_toArray, List.getElem_cons_succ, List.getElem_cons_zero]
        try simp only [Act.put, List.setIfInBounds_toArray, List.set_cons_zero, List.set_cons_succ]
        refine wpAnyH_ready (rs := [14]) (by kernel_rfl) (by simp) ?_
        refine AllReadyH.cons rfl (fun K hK => ?_) AllReadyH.nil
        (have kz : Blk ((w1.alloc (.cells (madeCells #[.int .i64 0] nh) 3)).alloc (.cells (madeCells #[.int .i64 0] nh) 3)) (B + 1) 22 #[.slice none 0 0] := (by repeat (with_reducible first | exact HK1.out | refine Blk.drew ?_ | refine Blk.alloc ?_ _ | refine Blk.far ?_ (by dsimp only; omega) _)); have z0 := kz.cell 0; have z1 := kz.frozen 0; simp at z0; clear kz; go_simp; clear z0 z1)
        refine hK.out _ _ ?_ (fun hHeld => ?_)
        · (try dsimp only); (exact HS1.out _ (by repeat (with_reducible first | exact HB1.out | refine Below.drew ?_ | refine balR ?_ _ | refine bset ?_ HL1.out _ _ | refine bset ?_ HL2.out _ _)) (by repeat (with_reducible first | exact HKB.out | refine Blk.drew ?_ | refine Blk.alloc ?_ _ | refine Blk.far ?_ (by dsimp only; omega) _)))
        clear hK K
        try simp only [List.getElem_toArray, List.getElem_cons_succ, List.getElem_cons_zero]
        try simp only [Act.put, List.setIfInBounds_toArray, List.set_cons_zero, List.set_cons_succ]
        refine wpAnyH_ready (rs := [15]) (by kernel_rfl) (by simp) ?_
        refine AllReadyH.cons rfl (fun K hK => ?_) AllReadyH.nil
        (have kz : Blk (((w1.alloc (.cells (madeCells #[.int .i64 0] nh) 3)).alloc (.cells (madeCells #[.int .i64 0] nh) 3)).setCell ⟨B + 1, 0, none⟩ (.slice (some ⟨w1.heap.size, 0, none⟩) nh nh)) (B + 1 + 1) 22 #[.slice none 0 0] := (by repeat (with_reducible first | exact HK2.out | refine Blk.drew ?_ | refine Blk.alloc ?_ _ | refine Blk.far ?_ (by dsimp only; omega) _)); have z0 := kz.cell 0; have z1 := kz.frozen 0; simp at z0; clear kz; go_simp; clear z0 z1)
        refine hK.out _ _ ?_ (fun hHeld => ?_)
        · (try dsimp only); (exact HS1.out _ (by repeat (with_reducible first | exact HB1.out | refine Below.drew ?_ | refine balR ?_ _ | refine bset ?_ HL1.out _ _ | refine bset ?_ HL2.out _ _)) (by repeat (with_reducible first | exact HKB.out | refine Blk.drew ?_ | refine Blk.alloc ?_ _ | refine Blk.far ?_ (by dsimp only; omega) _)))
        clear hK K
        try simp only [List.getElem_toArray, List.getElem_cons_succ, List.getElem_cons_zero]
        try simp only [Act.put, List.setIfInBounds_toArray, List.set_cons_zero, List.set_cons_succ]
        refine wpAnyH_done (by kernel_rfl) ?_ _
        refine NoPanic.normal ?_
        gi_wp2
        gi_meet
        have hs1 := HS1Z.out
        refine ⟨w1.heap.size, (w1.heap.size + 1), Lib.hid ⟨(by repeat (with_reducible first | exact HKB.out | refine Blk.drew ?_ | refine Blk.alloc ?_ _ | refine Blk.far ?_ (by dsimp only; omega) _ | refine blk_set1 (a := .slice none 0 0) ?_ _)), (by repeat (with_reducible first | exact HK1.out | refine Blk.drew ?_ | refine Blk.alloc ?_ _ | refine Blk.far ?_ (by dsimp only; omega) _ | refine blk_set1 (a := .slice none 0 0) ?_ _)), (by repeat (with_reducible first | exact HK2.out | refine Blk.drew ?_ | refine Blk.alloc ?_ _ | refine Blk.far ?_ (by dsimp only; omega) _ | refine blk_set1 (a := .slice none 0 0) ?_ _)), (by repeat (with_reducible first | exact mk_newA _ _ | exact mk_newB _ _ _ | exact mk_newC _ _ _ _ _ | refine RowF.drew ?_ | refine RowF.alloc ?_ _ | refine RowF.far ?_ (by dsimp only; omega) _)), (by repeat (with_reducible first | exact mk_newA _ _ | exact mk_newB _ _ _ | exact mk_newC _ _ _ _ _ | refine RowF.drew ?_ | refine RowF.alloc ?_ _ | refine RowF.far ?_ (by dsimp only; omega) _)), by omega, by omega, by omega⟩, Lib.hid (by repeat (with_reducible first | exact HB1.out | refine Below.drew ?_ | refine balR ?_ _ | refine bset ?_ HL1.out _ _ | refine bset ?_ HL2.out _ _))⟩
      · (have kz : Blk (w1.alloc (.cells (madeCells #[.int .i64 0] nh) 3)) (B + 1) 22 #[.slice none 0 0] := (by repeat (with_reducible first | exact HK1.out | refine Blk.drew ?_ | refine Blk.alloc ?_ _ | refine Blk.far ?_ (by dsimp only; omega) _)); have z0 := kz.cell 0; have z1 := kz.frozen 0; simp at z0; clear kz; go_simp; clear z0 z1)
        refine hK.out _ _ ?_ (fun hHeld => ?_)
        · (try dsimp only); (exact HS1.out _ (by repeat (with_reducible first | exact HB1.out | refine Below.drew ?_ | refine balR ?_ _ | refine bset ?_ HL1.out _ _ | refine bset ?_ HL2.out _ _)) (by repeat (with_reducible first | exact HKB.out | refine Blk.drew ?_ | refine Blk.alloc ?_ _ | refine Blk.far ?_ (by dsimp only; omega) _)))
        clear hK K
        try simp only [List.getElem_toArray, List.getElem_cons_succ, List.getElem_cons_zero]
        try simp only [Act.put, List.setIfInBounds_toArray, List.set_cons_zero, List.set_cons_succ]
        refine wpAnyH_ready (rs := [13]) (by kernel_rfl) (by simp) ?_
        refine AllReadyH.cons rfl (fun K hK => ?_) AllReadyH.nil
        go_simp
        refine hK.out _ _ ?_ (fun hHeld => ?_)
        · (try dsimp only); (exact HS1.out _ (by repeat (with_reducible first | exact HB1.out | refine Below.drew ?_ | refine balR ?_ _ | refine bset ?_ HL1.out _ _ | refine bset ?_ HL2.out _ _)) (by repeat (with_reducible first | exact HKB.out | refine Blk.drew ?_ | refine Blk.alloc ?_ _ | refine Blk.far ?_ (by dsimp only; omega) _)))
        clear hK K
        try simp only [List.getElem_toArray, List.getElem_cons_succ, List.getElem_cons_zero]
        try simp only [Act.put, List.setIfInBounds_toArray, List.set_cons_zero, List.set_cons_succ]
        refine wpAnyH_ready (rs := [15]) (by kernel_rfl) (by simp) ?_
        refine AllReadyH.cons rfl (fun K hK => ?_) AllReadyH.nil
        (have kz : Blk (((w1.alloc (.cells (madeCells #[.int .i64 0] nh) 3)).setCell ⟨B + 1, 0, none⟩ (.slice (some ⟨w1.heap.size, 0, none⟩) nh nh)).alloc (.cells (madeCells #[.int .i64 0] nh) 3)) (B + 1 + 1) 22 #[.slice none 0 0] := (by repeat (with_reducible first | exact HK2.out | refine Blk.drew ?_ | refine Blk.alloc ?_ _ | refine Blk.far ?_ (by dsimp only; omega) _)); have z0 := kz.cell 0; have z1 := kz.frozen 0; simp at z0; clear kz; go_simp; clear z0 z1)
        refine hK.out _ _ ?_ (fun hHeld => ?_)
        · (try dsimp only); (exact HS1.out _ (by repeat (with_reducible first | exact HB1.out | refine Below.drew ?_ | refine balR ?_ _ | refine bset ?_ HL1.out _ _ | refine bset ?_ HL2.out _ _)) (by repeat (with_reducible first | exact HKB.out | refine Blk.drew ?_ | refine Blk.alloc ?_ _ | refine Blk.far ?_ (by dsimp only; omega) _)))
        clear hK K
        try simp only [List.getElem_toArray, List.getElem_cons_succ, List.getElem_cons_zero]
        try simp only [Act.put, List.setIfInBounds_toArray, List.set_cons_zero, List.set_cons_succ]
        refine wpAnyH_done (by kernel_rfl) ?_ _
        refine NoPanic.normal ?_
        gi_wp2
        gi_meet
        have hs1 := HS1Z.out
        refine ⟨w1.heap.size, (w1.heap.size + 1), Lib.hid ⟨(by repeat (with_reducible first | exact HKB.out | refine Blk.drew ?_ | refine Blk.alloc ?_ _ | refine Blk.far ?_ (by dsimp only; omega) _ | refine blk_set1 (a := .slice none 0 0) ?_ _)), (by repeat (with_reducible first | exact HK1.out | refine Blk.drew ?_ | refine Blk.alloc ?_ _ | refine Blk.far ?_ (by dsimp only; omega) _ | refine blk_set1 (a := .slice none 0 0) ?_ _)), (by repeat (with_reducible first | exact HK2.out | refine Blk.drew ?_ | refine Blk.alloc ?_ _ | refine Blk.far ?_ (by dsimp only; omega) _ | refine blk_set1 (a := .slice none 0 0) ?_ _)), (by repeat (with_reducible first | exact mk_newA _ _ | exact mk_newB _ _ _ | exact mk_newC _ _ _ _ _ | refine RowF.drew ?_ | refine RowF.alloc ?_ _ | refine RowF.far ?_ (by dsimp only; omega) _)), (by repeat (with_reducible first | exact mk_newA _ _ | exact mk_newB _ _ _ | exact mk_newC _ _ _ _ _ | refine RowF.drew ?_ | refine RowF.alloc ?_ _ | refine RowF.far ?_ (by dsimp only; omega) _)), by omega, by omega, by omega⟩, Lib.hid (by repeat (with_reducible first | exact HB1.out | refine Below.drew ?_ | refine balR ?_ _ | refine bset ?_ HL1.out _ _ | refine bset ?_ HL2.out _ _))⟩
    · go_simp
      refine hK.out _ _ ?_ (fun hHeld => ?_)
      · (try dsimp only); (exact HS1.out _ (by repeat (with_reducible first | exact HB1.out | refine Below.drew ?_ | refine balR ?_ _ | refine bset ?_ HL1.out _ _ | refine bset ?_ HL2.out _ _)) (by repeat (with_reducible first | exact HKB.out | refine Blk.drew ?_ | refine Blk.alloc ?_ _ | refine Blk.far ?_ (by dsimp only; omega) _)))
      clear hK K
      try simp only [List.getElem_toArray, List.getElem_cons_succ, List.getElem_cons_zero]
      try simp only [Act.put, List.setIfInBounds_toArray, List.set_cons_zero, List.set_cons_succ]
      refine wpAnyH_ready (rs := [6]) (by kernel_rfl) (by simp) ?_
      refine AllReadyH.cons rfl (fun K hK => ?_) AllReadyH.nil
      go_simp
      refine hK.out _ _ ?_ (fun hHeld => ?_)
      · (try dsimp only); (exact HS1.out _ (by repeat (with_reducible first | exact HB1.out | refine Below.drew ?_ | refine balR ?_ _ | refine bset ?_ HL1.out _ _ | refine bset ?_ HL2.out _ _)) (by repeat (with_reducible first | exact HKB.out | refine Blk.drew ?_ | refine Blk.alloc ?_ _ | refine Blk.far ?_ (by dsimp only; omega) _)))
      clear hK K
      try simp only [List.getElem_toArray, List.getElem_cons_succ, List.getElem_cons_zero]
      try simp only [Act.put, List.setIfInBounds_toArray, List.set_cons_zero, List.set_cons_succ]
      refine wpAnyH_ready (rs := [14]) (by kernel_rfl) (by simp) ?_
      refine AllReadyH.cons rfl (fun K hK => ?_) AllReadyH.nil
      (have kz : Blk ((w1.alloc (.cells (madeCells #[.int .i64 0] nh) 3)).alloc (.cells (madeCells #[.int .i64 0] nh) 3)) (B + 1) 22 #[.slice none 0 0] := (by repeat (with_reducible first | exact HK1.out | refine Blk.drew ?_ | refine Blk.alloc ?_ _ | refine Blk.far ?_ (by dsimp only; omega) _)); have z0 := kz.cell 0; have z1 := kz.frozen 0; simp at z0; clear kz; go_simp; clear z0 z1)
      refine hK.out _ _ ?_ (fun hHeld => ?_)
      · (try dsimp only); (exact HS1.out _ (by repeat (with_reducible first | exact HB1.out | refine Below.drew ?_ | refine balR ?_ _ | refine bset ?_ HL1.out _ _ | refine bset ?_ HL2.out _ _)) (by repeat (with_reducible first | exact HKB.out | refine Blk.drew ?_ | refine Blk.alloc ?_ _ | refine Blk.far ?_ (by dsimp only; omega) _)))
      clear hK K
      try simp only [List.getElem_toArray, List.getElem_cons_succ, List.getElem_cons_zero]
      try simp only [Act.put, List.setIfInBounds_toArray, List.set_cons_zero, List.set_cons_succ]
      refine wpAnyH_ready (rs := [15]) (by kernel_rfl) (by simp) ?_
      refine AllReadyH.cons rfl (fun K hK => ?_) AllReadyH.nil
      (have kz : Blk (((w1.alloc (.cells (madeCells #[.int .i64 0] nh) 3)).alloc (.cells (madeCells #[.int .i64 0] nh) 3)).setCell ⟨B + 1, 0, none⟩ (.slice (some ⟨(w1.heap.size + 1), 0, none⟩) nh nh)) (B + 1 + 1) 22 #[.slice none 0 0] := (by repeat (with_reducible first | exact HK2.out | refine Blk.drew ?_ | refine Blk.alloc ?_ _ | refine Blk.far ?_ (by dsimp only; omega) _)); have z0 := kz.cell 0; have z1 := kz.frozen 0; simp at z0; clear kz; go_simp; clear z0 z1)
      refine hK.out _ _ ?_ (fun hHeld => ?_)
      · (try dsimp only); (exact HS1.out _ (by repeat (with_reducible first | exact HB1.out | refine Below.drew ?_ | refine balR ?_ _ | refine bset ?_ HL1.out _ _ | refine bset ?_ HL2.out _ _)) (by repeat (with_reducible first | exact HKB.out | refine Blk.drew ?_ | refine Blk.alloc ?_ _ | refine Blk.far ?_ (by dsimp only; omega) _)))
      clear hK K
      try simp only [List.getElem_toArray, List.getElem_cons_succ, List.getElem_cons_zero]
      try simp only [Act.put, List.setIfInBounds_toArray, List.set_cons_zero, List.set_cons_succ]
      refine wpAnyH_done (by kernel_rfl) ?_ _
      refine NoPanic.normal ?_
      gi_wp2
      gi_meet
      have hs1 := HS1Z.out
      refine ⟨(w1.heap.size + 1), w1.heap.size, Lib.hid ⟨(by repeat (with_reducible first | exact HKB.out | refine Blk.drew ?_ | refine Blk.alloc ?_ _ | refine Blk.far ?_ (by dsimp only; omega) _ | refine blk_set1 (a := .slice none 0 0) ?_ _)), (by repeat (with_reducible first | exact HK1.out | refine Blk.drew ?_ | refine Blk.alloc ?_ _ | refine Blk.far ?_ (by dsimp only; omega) _ | refine blk_set1 (a := .slice none 0 0) ?_ _)), (by repeat (with_reducible first | exact HK2.out | refine Blk.drew ?_ | refine Blk.alloc ?_ _ | refine Blk.far ?_ (by dsimp only; omega) _ | refine blk_set1 (a := .slice none 0 0) ?_ _)), (by repeat (with_reducible first | exact mk_newA _ _ | exact mk_newB _ _ _ | exact mk_newC _ _ _ _ _ | refine RowF.drew ?_ | refine RowF.alloc ?_ _ | refine RowF.far ?_ (by dsimp only; omega) _)), (by repeat (with_reducible first | exact mk_newA _ _ | exact mk_newB _ _ _ | exact mk_newC _ _ _ _ _ | refine RowF.drew ?_ | refine RowF.alloc ?_ _ | refine RowF.far ?_ (by dsimp only; omega) _)), by omega, by omega, by omega⟩, Lib.hid (by repeat (with_reducible first | exact HB1.out | refine Below.drew ?_ | refine balR ?_ _ | refine bset ?_ HL1.out _ _ | refine bset ?_ HL2.out _ _))⟩
  case rest =>
    obtain ⟨gp, gs, HT0, HBW⟩ := hcut
    have e0 := HT0.out.kB.cell 0
    simp at e0
    obtain ⟨G, hG⟩ : ∃ q, q = wc.heap.size := ⟨_, rfl⟩
    have hgpG : gp < G := by rw [hG]; exact HT0.out.r1.lt
    have hgsG : gs < G := by rw [hG]; exact HT0.out.r2.lt
    have hpB := HT0.out.hp
    have hsB := HT0.out.hs
    have HNE := Lib.hid HT0.out.ne
    have H99 := Lib.hid (show Calls Try.prog 99 #[.pointer (some ⟨g, 0, none⟩), .int .i64 (b : Int)] wc fun e w' => e = .returned (.func (.func 129) #[] #[.pointer (some ⟨G + 1, 0, none⟩), .pointer (some ⟨G, 0, none⟩)]) ∧ Hid (w' = (wc.alloc (.cells #[.pointer (some ⟨g, 0, none⟩)] 107)).alloc (.cells #[.int .i64 (b : Int)] 3)) from (batch99_any _ _ wc).mono (by rw [hG]; rintro e w' ⟨h1, h2⟩; exact ⟨h1, Lib.hid h2⟩))
    have HG := Lib.hid hG
    have HBG := Lib.hid (show B + 3 ≤ gp ∧ B + 3 ≤ gs ∧ gp < G ∧ gs < G from ⟨hpB, hsB, hgpG, hgsG⟩)
    clear hG hgpG hgsG hpB hsB
    gi_upto_region 2 with fail
    gi_wp2_with (refine ⟨trivial, ?_⟩; gi_at_call 99; refine (callsIn_wide.2 H99.out).mono ?_; rintro e w4 ⟨rfl, HW4⟩)
    have HT4 := Lib.hid (show TwoR w4 B g gp gs nh (fun _ => 0) (fun _ => 0) from by rw [HW4.out]; exact HT0.out.below (by repeat (with_reducible first | exact Below.refl _ _ | refine balR ?_ _)))
    have HB4 := Lib.hid (show Below w.heap.size w w4 from by rw [HW4.out]; exact bstep HBW.out (by repeat (with_reducible first | exact Below.refl _ _ | refine balR ?_ _)))
    have hsz4 : w4.heap.size = G + 2 := by rw [HW4.out, HG.out]; simp
    have k2' : Blk w4 G 107 #[.pointer (some ⟨g, 0, none⟩)] := by rw [HW4.out, HG.out]; exact (Blk.new wc 107 _).alloc _
    have k3' : Blk w4 (G + 1) 3 #[.int .i64 (b : Int)] := by rw [HW4.out, HG.out]; exact blkAt (by simp) 3 _
    have HSEQ := Lib.hid (batch_in 2 (by omega) d x zs zA zc fs g G (G + 1) w w4 HRUN.out bt b HBT.out hb1 hz hbb HB4.out k2' k3')
    have HGZ := Lib.hid hsz4
    have hBG := HBG.out
    clear k2' k3' e0 HW4 hsz4
    refine range_loop rfl (by omega) (gf := 129) (lb := #[.pointer (some ⟨G + 1, 0, none⟩), .pointer (some ⟨G, 0, none⟩)]) rfl trivial (enters_of Try.func129 (by kernel_rfl) rfl)
      HSEQ.out (Below.refl _ _) (fun _ => rfl) ?kl (fun pre W => TwoR W B g gp gs nh (cntS d zs (putS fs) pre) (cntS d zs (fun _ _ => 1) pre) ∧ Below w.heap.size w W) (fun _ _ _ => False) ?hI (fun _ _ _ _ _ _ _ h _ => h) ⟨HT4.out, HB4.out⟩ ?round ?done (fun _ _ _ _ h _ => h.elim)
    case kl =>
      rintro X Y Z hsz ⟨h1, h2, h3⟩ hg
      have h4 := HGZ.out
      have h5 := h1.size
      have h6 := HB4.out.size
      exact ⟨h1.grown hg (by omega) (fun j hj => by injection hj with hj; omega), (hg.block _ (by omega) (fun e => by injection e with e; omega)).trans h2, (hg.block _ (by omega) (fun e => by injection e with e; omega)).trans h3⟩
    case hI =>
      rintro s X Y r h1 h2 ⟨q1, q2⟩ hg
      have h4 := HGZ.out
      have h6 := HB4.out.size
      exact ⟨q1.grown hg (by omega) (by omega), q2.grown hg q2.size (fun j hj => by injection hj with hj; omega)⟩
    case round =>
      rintro l pre x1 W hG1 ⟨hT, hBl⟩ hlen hsz
      dsimp only [encsI]
      gi_wp2
      refine ⟨⟨rfl, rfl⟩, fun W2 hg2 hs2 => ?_⟩
      obtain ⟨k, rfl, hk⟩ := bat_mem hG1
      have h4 := HGZ.out
      have h6 := HB4.out.size
      have HT2 := Lib.hid (hT.grown hg2 (by omega) (by omega))
      have HB2 := Lib.hid (hBl.grown hg2 hBl.size (fun j hj => by injection hj with hj; omega))
      have hlw : w.heap.size ≤ W2.heap.size := HB2.out.size
      have HLN := Lib.hid (show pre.length < bt from Nat.lt_of_lt_of_le hlen bat_len)
      obtain ⟨zn, hzn⟩ : ∃ zn : Nat, zs[k] = (zn : Int) := ⟨zs[k].toNat, by have := HZR.out _ (List.getElem_mem hk); omega⟩
      have hznl : zn < d.zones.length := by have := (HZR.out _ (List.getElem_mem hk)).2; rw [hzn] at this; omega
      have hza : zAt zs (k : Int) = (zn : Int) := by unfold zAt; rw [List.getD_eq_getElem?_getD]; simp [hk, hzn]
      obtain ⟨L, hL⟩ : ∃ L, L = fdsS d (zn : Int) := ⟨_, rfl⟩
      have hL2 : L = d.zones[zn].map (fdS d.hops) := by rw [hL]; unfold fdsS; rw [List.getD_eq_getElem?_getD]; simp [hznl]
      have hLl : L.length ≤ 16 := by rw [hL]; exact HFL.out _
      have HLM := Lib.hid (show ∀ q ∈ L, 0 ≤ q ∧ q < (nh : Int) from fun q hq => by rw [hL] at hq; have := HFM.out _ q hq; rw [HNH.out]; exact this)
      obtain ⟨bz, oz, hzA, hbz, cz⟩ := (HW.out W2 HB2.out).2.1.at1 hk
      subst hzA
      rw [hzn] at cz
      have hck := chk_ok hch
      have H55 := Lib.hid (show ∀ W, Below W2.heap.size W2 W → Calls Try.prog 55 #[.agg #[.slice x.a d.hops.length x.ca, .slice x.b d.rep.length x.cb, .int .i64 d.batch, .slice x.z d.zones.length x.cz], .int .i64 (zn : Int)] W fun e w' => ∃ A c, e = .returned (.slice A L.length c) ∧ Hid (w'.ownsRow W2.heap.size 3 1 (.slice A L.length c) L.length (L.map (Value.int .i64))) ∧ Hid (Below W.heap.size W w') from fun W hW => (feeds_any d x zn W (HW.out W (HB2.out.trans (hW.mono hlw))).1 hznl (by have := hck.2.1; omega) (by have := hck.1; omega) _ L rfl (by have := zn_len hch (List.getElem_mem hznl); omega) hL2).mono (by rintro e w' ⟨A, c, h1, h2, h3⟩; exact ⟨A, c, h1, Lib.hid (own_low h2.out hW.size), h3⟩))
      have HS4 := Lib.hid (show ∀ X, Below W2.heap.size W2 X → (X.cell? ⟨B, 0, none⟩ = some (.pointer (some ⟨g, 0, none⟩)) ∧ X.cell? ⟨bz, oz + k, none⟩ = some (.int .i64 (zn : Int))) ∧ (X.cell? ⟨g, 0, none⟩ = some (.slice x.a d.hops.length x.ca) ∧ X.cell? ⟨g, 1, none⟩ = some (.slice x.b d.rep.length x.cb) ∧ X.cell? ⟨g, 2, none⟩ = some (.int .i64 d.batch) ∧ X.cell? ⟨g, 3, none⟩ = some (.slice x.z d.zones.length x.cz) ∧ X.cell? ⟨g, 4, none⟩ = some (.slice (some ⟨bz, oz, none⟩) zs.length zc)) from fun X hX => by
        have z0 := (HT2.out.below hX).kB.cell 0
        simp at z0
        obtain ⟨r0, r1, r2, r3, r4, -⟩ := (HW.out X (HB2.out.trans (hX.mono hlw))).2.2.1
        exact ⟨⟨z0, (hX.cell (p := ⟨bz, oz + k, none⟩) hbz).trans cz⟩, r0, r1, r2, r3, r4⟩)
      have HZA := Lib.hid hza
      have HL := Lib.hid hL
      have HHK := Lib.hid (show W2.heap.size = W.heap.size ∧ W.grownBy W2 (some (w4.heap.size + 1)) ∧ w4.heap.size + 2 ≤ W.heap.size from ⟨hs2, hg2, hsz⟩)
      have hzl3 : (k : Int) < (zs.length : Int) := by omega
      clear hT hBl hlen hsz hg2 hs2 hG1 h4 h6 hzn hza hL hL2 hck cz
      gi_upto_region 4 with fail
      refine region_round_held (S := (fun W => (W.cell? ⟨B, 0, none⟩ = some (.pointer (some ⟨g, 0, none⟩)) ∧ W.cell? ⟨bz, oz + k, none⟩ = some (.int .i64 (zn : Int))) ∧ (W.cell? ⟨g, 0, none⟩ = some (.slice x.a d.hops.length x.ca) ∧ W.cell? ⟨g, 1, none⟩ = some (.slice x.b d.rep.length x.cb) ∧ W.cell? ⟨g, 2, none⟩ = some (.int .i64 d.batch) ∧ W.cell? ⟨g, 3, none⟩ = some (.slice x.z d.zones.length x.cz) ∧ W.cell? ⟨g, 4, none⟩ = some (.slice (some ⟨bz, oz, none⟩) zs.length zc)))) (by kernel_rfl) (by kernel_rfl) ?_ (fun hHeld => ?_)
      · (try dsimp only); (exact HS4.out _ (by repeat (with_reducible first | exact Below.refl _ _ | refine Below.drew ?_)))
      refine wpAnyH_takeD (i := 0) (v := ?_) (some 27) rfl rfl (by kernel_rfl) (by kernel_rfl) (by kernel_rfl) (fun _ _ _ h => h) (Or.inl ⟨by rfl, ?_⟩) (by assumption) ?_
      rotate_left
      · intro w hSw; (try dsimp only at hSw); go_simp; (try with_reducible rfl)
      try simp only [Act.put, List.setIfInBounds_toArray, List.set_cons_zero, List.set_cons_succ]
      refine wpAnyH_takeD (i := 1) (v := ?_) (some 28) rfl rfl (by kernel_rfl) (by kernel_rfl) (by kernel_rfl) (fun _ _ _ h => h) (Or.inl ⟨by rfl, ?_⟩) (by assumption) ?_
      rotate_left
      · intro w hSw; (try dsimp only at hSw); go_simp; (try with_reducible rfl)
      try simp only [Act.put, List.setIfInBounds_toArray, List.set_cons_zero, List.set_cons_succ]
      refine wpAnyH_takeD (i := 2) (v := ?_) (some 29) rfl rfl (by kernel_rfl) (by kernel_rfl) (by kernel_rfl) (fun _ _ _ h => h) (Or.inl ⟨by rfl, ?_⟩) (by assumption) ?_
      rotate_left
      · intro w hSw; (try dsimp only at hSw); go_simp; (try with_reducible rfl)
      try simp only [Act.put, List.setIfInBounds_toArray, List.set_cons_zero, List.set_cons_succ]
      refine wpAnyH_takeD (i := 3) (v := ?_) (some 30) rfl rfl (by kernel_rfl) (by kernel_rfl) (by kernel_rfl) (fun _ _ _ h => h) (Or.inl ⟨by rfl, ?_⟩) (by assumption) ?_
      rotate_left
      · intro w hSw; (try dsimp only at hSw); go_simp; (try with_reducible rfl)
      try simp only [Act.put, List.setIfInBounds_toArray, List.set_cons_zero, List.set_cons_succ]
      refine wpAnyH_takeD (i := 4) (v := ?_) (some 31) rfl rfl (by kernel_rfl) (by kernel_rfl) (by kernel_rfl) (fun _ _ _ h => h) (Or.inl ⟨by rfl, ?_⟩) (by assumption) ?_
      rotate_left
      · intro w hSw; (try dsimp only at hSw); go_simp; (try with_reducible rfl)
      try simp only [Act.put, List.setIfInBounds_toArray, List.set_cons_zero, List.set_cons_succ]
      refine wpAnyH_takeD (i := 5) (v := ?_) (some 32) rfl rfl (by kernel_rfl) (by kernel_rfl) (by kernel_rfl) (fun _ _ _ h => h) (Or.inl ⟨by rfl, ?_⟩) (by assumption) ?_
      rotate_left
      · intro w hSw; (try dsimp only at hSw); go_simp; (try with_reducible rfl)
      try simp only [Act.put, List.setIfInBounds_toArray, List.set_cons_zero, List.set_cons_succ]
      refine wpAnyH_takeD (i := 6) (v := ?_) (some 33) rfl rfl (by kernel_rfl) (by kernel_rfl) (by kernel_rfl) (fun _ _ _ h => h) (Or.inl ⟨by rfl, ?_⟩) (by assumption) ?_
      rotate_left
      · intro w hSw; (try dsimp only at hSw); go_simp; (try with_reducible rfl)
      try simp only [Act.put, List.setIfInBounds_toArray, List.set_cons_zero, List.set_cons_succ]
      refine wpAnyH_takeD (i := 7) (v := ?_) (some 34) rfl rfl (by kernel_rfl) (by kernel_rfl) (by kernel_rfl) (fun _ _ _ h => h) (Or.inl ⟨by rfl, ?_⟩) (by assumption) ?_
      rotate_left
      · intro w hSw; (try dsimp only at hSw); go_simp; (try with_reducible rfl)
      try simp only [Act.put, List.setIfInBounds_toArray, List.set_cons_zero, List.set_cons_succ]
      refine wpAnyH_takeD (i := 8) (v := ?_) (some 35) rfl rfl (by kernel_rfl) (by kernel_rfl) (by kernel_rfl) (fun _ _ _ h => h) (Or.inl ⟨by rfl, ?_⟩) (by assumption) ?_
      rotate_left
      · intro w hSw; (try dsimp only at hSw); go_simp; (try with_reducible rfl)
      try simp only [Act.put, List.setIfInBounds_toArray, List.set_cons_zero, List.set_cons_succ]
      refine wpAnyH_takeD (i := 9) (v := ?_) (some 36) rfl rfl (by kernel_rfl) (by kernel_rfl) (by kernel_rfl) (fun _ _ _ h => h) (Or.inl ⟨by rfl, ?_⟩) (by assumption) ?_
      rotate_left
      · intro w hSw; (try dsimp only at hSw); go_simp; (try with_reducible rfl)
      try simp only [Act.put, List.setIfInBounds_toArray, List.set_cons_zero, List.set_cons_succ]
      refine wpAnyH_takeD (i := 10) (v := ?_) (some 37) rfl rfl (by kernel_rfl) (by kernel_rfl) (by kernel_rfl) (fun _ _ _ h => h) (Or.inl ⟨by rfl, ?_⟩) (by assumption) ?_
      rotate_left
      · intro w hSw; (try dsimp only at hSw); go_simp; (try with_reducible rfl)
      try simp only [Act.put, List.setIfInBounds_toArray, List.set_cons_zero, List.set_cons_succ]
      refine wpAnyH_takeD (i := 13) (v := ?_) (some 40) rfl rfl (by kernel_rfl) (by kernel_rfl) (by kernel_rfl) (fun _ _ _ h => h) (Or.inl ⟨by rfl, ?_⟩) (by assumption) ?_
      rotate_left
      · intro w hSw; (try dsimp only at hSw); go_simp; (try with_reducible rfl)
      try simp only [Act.put, List.setIfInBounds_toArray, List.set_cons_zero, List.set_cons_succ]
      refine wpAnyH_ready (rs := [11]) (by kernel_rfl) (by simp) ?_
      refine AllReadyH.cons rfl (fun K hK => ?_) AllReadyH.nil
      (go_simp; go_at_call 55; with_reducible refine (H55.out _ (by repeat (with_reducible first | exact Below.refl _ _ | refine Below.drew ?_))).mono ?_; rintro e w5 ⟨A5, c5, rfl, HO5, HB5⟩; go_wp2_with fail)
      refine hK.out _ _ ?_ (fun hHeld => ?_)
      · (try dsimp only); (exact HS4.out _ (bstep (by repeat (with_reducible first | exact Below.refl _ _ | refine Below.drew ?_)) HB5.out))
      clear hK K
      try simp only [List.getElem_toArray, List.getElem_cons_succ, List.getElem_cons_zero]
      try simp only [Act.put, List.setIfInBounds_toArray, List.set_cons_zero, List.set_cons_succ]
      refine wpAnyH_takeD (i := 12) (v := ?_) (some 39) rfl rfl (by kernel_rfl) (by kernel_rfl) (by kernel_rfl) (fun _ _ _ h => h) (Or.inl ⟨by rfl, ?_⟩) (by assumption) ?_
      rotate_left
      · intro w hSw; (try dsimp only at hSw); go_simp; (try with_reducible rfl)
      try simp only [Act.put, List.setIfInBounds_toArray, List.set_cons_zero, List.set_cons_succ]
      refine wpAnyH_done (by kernel_rfl) ?_ _
      refine Calm.normal ?_
      have HOW5 := Lib.hid (show w5.ownsRow W2.heap.size 3 1 (.slice A5 L.length c5) L.length (L.map (Value.int .i64)) from HO5.out)
      have HOF5 := Lib.hid (show Off2 w.heap.size gp gs W2 w5 from (Off2.refl hlw).below (bstep (Below.refl _ _).drew HB5.out))
      have HT5 := Lib.hid (HT2.out.below (bstep (Below.refl _ _).drew HB5.out))
      clear HO5 HB5
      gi_wp2
      gi_loopw [40] (fun u wr => ∃ q : Nat, q ≤ L.length ∧ u = .int .i64 (q : Int) ∧ Hid (Off2 w.heap.size gp gs W2 wr) ∧ Hid (TwoR wr B g gp gs nh (cntL (putS fs k) (L.take q) (cntS d zs (putS fs) pre)) (cntL (fun _ => 1) (L.take q) (cntS d zs (fun _ _ => 1) pre))) ∧ Hid (wr.ownsRow W2.heap.size 3 1 (.slice A5 L.length c5) L.length (L.map (Value.int .i64)))) (fun i _ => L.length + 1 - (intOf i).toNat)
      case atStart => exact ⟨0, Nat.zero_le _, rfl, HOF5, HT5, HOW5⟩
      case round =>
        obtain ⟨q, hq, rfl, HOF, HT, HOW⟩ := hrel
        by_cases hlt : q < L.length
        · obtain ⟨hn, hhn⟩ : ∃ hn : Nat, L[q] = (hn : Int) := ⟨L[q].toNat, by have := HLM.out _ (List.getElem_mem hlt); omega⟩
          have hhl : hn < nh := by have := (HLM.out _ (List.getElem_mem hlt)).2; rw [hhn] at this; omega
          obtain ⟨bb, ob, hA5, hbb5, c0⟩ := (own_sl HOW.out).at1 hlt
          rw [hhn] at c0
          subst hA5
          have htk : L.take (q + 1) = L.take q ++ [(hn : Int)] := by rw [← hhn]; simp
          obtain ⟨F, hF⟩ : ∃ F, F = cntL (putS fs k) (L.take q) (cntS d zs (putS fs) pre) := ⟨_, rfl⟩
          obtain ⟨H, hH⟩ : ∃ F, F = cntL (fun _ => 1) (L.take q) (cntS d zs (fun _ _ => 1) pre) := ⟨_, rfl⟩
          have htl : (L.take q).length ≤ 16 := by rw [List.length_take]; omega
          have hFb : 0 ≤ F hn ∧ F hn ≤ 100000 := by
            have h1 := cntS_bd (zs := zs) (c := putS fs) (putS_bd fs) HFL.out pre hn
            have h2 := cntL_bd (putS_bd fs k) (L.take q) (cntS d zs (putS fs) pre) hn
            rw [← hF] at h2
            have := HLN.out
            omega
          have hHb : 0 ≤ H hn ∧ H hn ≤ 100000 := by
            have h1 := cntS_bd (zs := zs) (c := fun _ _ => 1) (fun _ _ => ⟨by omega, by omega⟩) HFL.out pre hn
            have h2 := cntL_bd (c := fun _ => 1) (fun _ => ⟨by omega, by omega⟩) (L.take q) (cntS d zs (fun _ _ => 1) pre) hn
            rw [← hH] at h2
            have := HLN.out
            omega
          have HT7 := Lib.hid (show TwoR wr B g gp gs nh F H from by rw [hF, hH]; exact HT.out)
          have HST := Lib.hid (show cntL (putS fs k) (L.take (q + 1)) (cntS d zs (putS fs) pre) = stepF (putS fs k) F (hn : Int) ∧ cntL (fun _ => 1) (L.take (q + 1)) (cntS d zs (fun _ _ => 1) pre) = stepF (fun _ => 1) H (hn : Int) from by rw [htk, cntL_app, cntL_app, ← hF, ← hH]; exact ⟨rfl, rfl⟩)
          obtain ⟨v0, hv0⟩ : ∃ v, v = F hn := ⟨_, rfl⟩
          obtain ⟨v1, hv1⟩ : ∃ v, v = H hn := ⟨_, rfl⟩
          obtain ⟨pv, hpv⟩ : ∃ v, v = putS fs k hn := ⟨_, rfl⟩
          have hpb : 0 ≤ pv ∧ pv ≤ 2 := by rw [hpv]; exact putS_bd _ _ _
          rw [← hv0] at hFb
          rw [← hv1] at hHb
          have HV := Lib.hid (show v0 = F hn ∧ v1 = H hn ∧ pv = putS fs k hn from ⟨hv0, hv1, hpv⟩)
          have HWR := Lib.hid (HB2.out.trans HOF.out.2.1)
          have hlr : w.heap.size ≤ wr.heap.size := HWR.out.size
          have H98 := Lib.hid (show ∀ X, Below wr.heap.size wr X → Calls Try.prog 98 #[.pointer (some ⟨g, 0, none⟩), .int .i64 (k : Int), .int .i64 (hn : Int)] X fun e w' => e = .returned (.int .i64 pv) ∧ Hid (Below X.heap.size X w') from fun X hX => puts_any d x zs _ zc fs g X (HRUN.out.below (HWR.out.trans (hX.mono hlr))) _ _ _ hpv)
          have HF7 := Lib.hid (show ∀ X, Below wr.heap.size wr X → X.frozen? ⟨gp, hn, none⟩ = false from fun X hX => (HT7.out.below hX).r1.frozen hn)
          have HS7 := Lib.hid (show ∀ X, Below wr.heap.size wr X → X.cell? ⟨B + 1, 0, none⟩ = some (.slice (some ⟨gp, 0, none⟩) nh nh) ∧ X.cell? ⟨gp, hn, none⟩ = some (.int .i64 v0) ∧ X.cell? ⟨B, 0, none⟩ = some (.pointer (some ⟨g, 0, none⟩)) from fun X hX => by
            have h := HT7.out.below hX
            have z0 := h.k1.cell 0
            have z1 := h.kB.cell 0
            simp at z0 z1
            exact ⟨z0, by rw [hv0]; exact h.r1.cell hhl, z1⟩)
          have p7 : IntKind.i64.wrap (v0 + pv) = v0 + pv := by rw [IntKind.wrap_i64]; omega
          have p8 : IntKind.i64.wrap (v1 + 1) = v1 + 1 := by rw [IntKind.wrap_i64]; omega
          have HP7 := Lib.hid p7
          have t1 : decide ((q : Int) < (L.length : Int)) = true := decide_eq_true (by omega)
          have hgw2 : gp < W2.heap.size ∧ gs < W2.heap.size := by have := HHK.out; have := HGZ.out; omega
          have hgw : w.heap.size ≤ gp ∧ w.heap.size ≤ gs := by have := HBB.out; omega
          have HGW := Lib.hid hgw
          have HGW2 := Lib.hid hgw2
          clear hF hH htk htl hhn hv0 hv1 hpv HT HWR hlr p7 hpb hgw hgw2
          gi_upto_region 7 with fail
          have p7 := HP7.out
          refine region_round_T (S := (fun W => W.cell? ⟨B + 1, 0, none⟩ = some (.slice (some ⟨gp, 0, none⟩) nh nh) ∧ W.cell? ⟨gp, hn, none⟩ = some (.int .i64 v0) ∧ W.cell? ⟨B, 0, none⟩ = some (.pointer (some ⟨g, 0, none⟩)))) (T := (fun _ => True)) 10 (by kernel_rfl) (by kernel_rfl) ?_ (fun hHeld hHeldT => ?_)
          · (try dsimp only); (exact ⟨HS7.out _ (Below.refl _ _).drew, trivial⟩)
          refine wpAnyT_takeD (i := 0) (v := ?_) (some 44) rfl rfl (by kernel_rfl) (by kernel_rfl) (by kernel_rfl) (by kernel_rfl) (fun _ _ _ h => h) (Or.inl ⟨by rfl, ?_⟩) (by assumption) (by assumption) ?_
          rotate_left
          · intro w hSw; (try dsimp only at hSw); go_simp; (try with_reducible rfl)
          try simp only [Act.put, List.setIfInBounds_toArray, List.set_cons_zero, List.set_cons_succ]
          refine wpAnyT_takeW (i := 1) (v := ?_) (some 45) rfl rfl (by kernel_rfl) (by kernel_rfl) (by kernel_rfl) (by kernel_rfl) (fun _ _ _ h => h) (Or.inl ⟨by rfl, ?_⟩) (by assumption) (by assumption) ?_
          rotate_left
          · intro w hSw; (try dsimp only at hSw); go_simp; (try with_reducible rfl)
          try simp only [Act.put, List.setIfInBounds_toArray, List.set_cons_zero, List.set_cons_succ]
          refine wpAnyT_takeW (i := 2) (v := ?_) (some 46) rfl rfl (by kernel_rfl) (by kernel_rfl) (by kernel_rfl) (by kernel_rfl) (fun _ _ _ h => h) (Or.inl ⟨by rfl, ?_⟩) (by assumption) (by assumption) ?_
          rotate_left
          · intro w hSw; (try dsimp only at hSw); go_simp; (try with_reducible rfl)
          try simp only [Act.put, List.setIfInBounds_toArray, List.set_cons_zero, List.set_cons_succ]
          refine wpAnyT_takeD (i := 3) (v := ?_) (some 47) rfl rfl (by kernel_rfl) (by kernel_rfl) (by kernel_rfl) (by kernel_rfl) (fun _ _ _ h => h) (Or.inl ⟨by rfl, ?_⟩) (by assumption) (by assumption) ?_
          rotate_left
          · intro w hSw; (try dsimp only at hSw); go_simp; (try with_reducible rfl)
          try simp only [Act.put, List.setIfInBounds_toArray, List.set_cons_zero, List.set_cons_succ]
          refine wpAnyT_takeD (i := 4) (v := ?_) (some 48) rfl rfl (by kernel_rfl) (by kernel_rfl) (by kernel_rfl) (by kernel_rfl) (fun _ _ _ h => h) (Or.inl ⟨by rfl, ?_⟩) (by assumption) (by assumption) ?_
          rotate_left
          · intro w hSw; (try dsimp only at hSw); go_simp; (try with_reducible rfl)
          try simp only [Act.put, List.setIfInBounds_toArray, List.set_cons_zero, List.set_cons_succ]
          refine wpAnyT_takeW (i := 5) (v := ?_) (some 49) rfl rfl (by kernel_rfl) (by kernel_rfl) (by kernel_rfl) (by kernel_rfl) (fun _ _ _ h => h) (Or.inl ⟨by rfl, ?_⟩) (by assumption) (by assumption) ?_
          rotate_left
          · intro w hSw; (try dsimp only at hSw); go_simp; (try with_reducible rfl)
          try simp only [Act.put, List.setIfInBounds_toArray, List.set_cons_zero, List.set_cons_succ]
          refine wpAnyT_takeW (i := 6) (v := ?_) (some 50) rfl rfl (by kernel_rfl) (by kernel_rfl) (by kernel_rfl) (by kernel_rfl) (fun _ _ _ h => h) (Or.inl ⟨by rfl, ?_⟩) (by assumption) (by assumption) ?_
          rotate_left
          · intro w hSw; (try dsimp only at hSw); go_simp; (try with_reducible rfl)
          try simp only [Act.put, List.setIfInBounds_toArray, List.set_cons_zero, List.set_cons_succ]
          refine wpAnyT_ready (rs := [7]) (by kernel_rfl) (by simp) ?_
          refine AllReadyT.cons rfl (fun K hK => ?_) AllReadyT.nil
          (go_simp; go_at_call 98; with_reducible refine (H98.out _ (by repeat (with_reducible first | exact Below.refl _ _ | refine Below.drew ?_))).mono ?_; rintro e w7 ⟨rfl, hb7⟩; have HB7 := Lib.hid (bstep (Below.refl _ _).drew hb7.out); clear hb7; have f7 := HF7.out _ HB7.out; have c7 := (HS7.out _ HB7.out).2.1; go_wp2_with fail)
          refine hK.out _ _ ?_ (fun hHeld hHeldT => ?_)
          · (try dsimp only); (exact ⟨HS7.out _ HB7.out, trivial⟩)
          clear hK K
          try simp only [List.getElem_toArray, List.getElem_cons_succ, List.getElem_cons_zero]
          try simp only [Act.put, List.setIfInBounds_toArray, List.set_cons_zero, List.set_cons_succ]
          refine wpAnyT_takeW (i := 8) (v := ?_) (some 52) rfl rfl (by kernel_rfl) (by kernel_rfl) (by kernel_rfl) (by kernel_rfl) (fun _ _ _ h => h) (Or.inl ⟨by rfl, ?_⟩) (by assumption) (by assumption) ?_
          rotate_left
          · intro w hSw; (try dsimp only at hSw); (go_simp; (try simp [p7])); (try with_reducible rfl)
          try simp only [Act.put, List.setIfInBounds_toArray, List.set_cons_zero, List.set_cons_succ]
          refine wpAnyT_takeW (i := 9) (v := ?_) (some 53) rfl rfl (by kernel_rfl) (by kernel_rfl) (by kernel_rfl) (by kernel_rfl) (fun _ _ _ h => h) (Or.inl ⟨by rfl, ?_⟩) (by assumption) (by assumption) ?_
          rotate_left
          · intro w hSw; (try dsimp only at hSw); go_simp; (try with_reducible rfl)
          try simp only [Act.put, List.setIfInBounds_toArray, List.set_cons_zero, List.set_cons_succ]
          refine wpAnyT_ready (rs := [10]) (by kernel_rfl) (by simp) ?_
          refine AllReadyT.past rfl (by kernel_rfl) (fun K hK => ?_)
          go_simp
          refine hK.out _ _ ?_ ?_
          · (try dsimp only); (try exact trivial)
          clear hK K
          try simp only [List.getElem_toArray, List.getElem_cons_succ, List.getElem_cons_zero]
          try simp only [Act.put, List.setIfInBounds_toArray, List.set_cons_zero, List.set_cons_succ]
          refine wpAnyT_done (by kernel_rfl) ?_ _
          refine Calm.normal ?_
          obtain ⟨w8, hw8⟩ : ∃ W, W = w7.setCell ⟨gp, hn, none⟩ (.int .i64 (v0 + pv)) := ⟨_, rfl⟩
          rw [← hw8]
          have HT8 := Lib.hid (show TwoR w8 B g gp gs nh (stepF (putS fs k) F (hn : Int)) H from by
            rw [hw8]
            refine ((HT7.out.below HB7.out).setP hn (v0 + pv)).congr (fun i hi => ?_) (fun _ _ => rfl)
            unfold stepF
            rw [HV.out.1, HV.out.2.2]
            by_cases hih : i = hn
            · rw [if_pos hih, if_pos (by omega), hih]
            · rw [if_neg hih, if_neg (by omega)])
          have HOF8 := Lib.hid (show Off2 w.heap.size gp gs W2 w8 from by rw [hw8]; exact (HOF.out.below HB7.out).setP HGW.out.1 _ _)
          have HOW8 := Lib.hid (show w8.ownsRow W2.heap.size 3 1 (.slice (some ⟨bb, ob, none⟩) L.length c5) L.length (L.map (Value.int .i64)) from by rw [hw8]; exact ownsRow_setCell_below (own_belowV HOW.out HB7.out) (a := ⟨gp, hn, none⟩) HGW2.out.1 _)
          have z2 := HT8.out.k2.cell 0
          have z3 := HT8.out.r2.cell hhl
          have z4 := HT8.out.r2.frozen hn
          simp at z2
          rw [← HV.out.2.1] at z3
          clear hw8 HB7 p7 HOW HOF HT7 f7 c7
          gi_wp2
          go_roundw
          case rel =>
            refine ⟨q + 1, by omega, by go_num, Lib.hid (HOF8.out.setQ HGW.out.2 _ _), Lib.hid ?_, Lib.hid (ownsRow_setCell_below HOW8.out (a := ⟨gs, hn, none⟩) HGW2.out.2 _)⟩
            rw [HST.out.1, HST.out.2]
            refine (HT8.out.setQ hn (v1 + 1)).congr (fun _ _ => rfl) (fun i hi => ?_)
            unfold stepF
            rw [HV.out.2.1]
            by_cases hih : i = hn
            · rw [if_pos hih, if_pos (by omega), hih]
            · rw [if_neg hih, if_neg (by omega)]
          case measure => simp [intOf]; omega
        · obtain rfl : q = L.length := by omega
          have t1 : decide ((L.length : Int) < (L.length : Int)) = false := by simp
          gi_wp2
          have h4 := HGZ.out
          have h5 := HHK.out
          have h7 := HOF.out
          have h6 := HB4.out.size
          refine ⟨⟨h7.2.2 _ (by omega) (by omega) (by omega), h7.2.2 _ (by omega) (by omega) (by omega)⟩, ⟨?_, ?_, ?_⟩, ?_, HB2.out.trans h7.2.1⟩
          · exact ((Below.refl w.heap.size W).grown h5.2.1 (by omega) (fun j hj => by injection hj with hj; omega)).trans h7.2.1
          · exact (h7.2.2 _ (by omega) (by omega) (by omega)).trans (h5.2.1.block _ (by omega) (fun e => by injection e with e; omega))
          · exact (h7.2.2 _ (by omega) (by omega) (by omega)).trans (h5.2.1.block _ (by omega) (fun e => by injection e with e; omega))
          · have h8 := HT.out
            rw [List.take_length, HL.out, ← HZA.out, ← cntS_app, ← cntS_app (c := fun _ _ => 1)] at h8
            exact h8
    case done =>
      rintro xs W rfl ⟨hT, hBl⟩ hK
      have HTD := Lib.hid hT
      have HBD := Lib.hid hBl
      have HKD := Lib.hid hK
      have HGE := Lib.hid (show w.heap.size ≤ gp ∧ w.heap.size ≤ gs from by have := HBG.out; have := HBB.out; omega)
      have HSD := Lib.hid (show ∀ X, TwoR X B g gp gs nh (cntS d zs (putS fs) (batS bt zs.length b)) (cntS d zs (fun _ _ => 1) (batS bt zs.length b)) → X.cell? ⟨B + 1, 0, none⟩ = some (.slice (some ⟨gp, 0, none⟩) nh nh) ∧ X.cell? ⟨B + 1 + 1, 0, none⟩ = some (.slice (some ⟨gs, 0, none⟩) nh nh) from fun X h => by
        have z0 := h.k1.cell 0
        have z1 := h.k2.cell 0
        simp at z0 z1
        exact ⟨z0, z1⟩)
      clear hT hBl hK
      gi_upto_region 10 with fail
      refine wpIn_wide.2 ?_
      refine wp_region_noPanic ?_
      refine wp_region_held_drew (S := (fun X => X.cell? ⟨B + 1, 0, none⟩ = some (.slice (some ⟨gp, 0, none⟩) nh nh) ∧ X.cell? ⟨B + 1 + 1, 0, none⟩ = some (.slice (some ⟨gs, 0, none⟩) nh nh))) (by kernel_rfl) ?_ (fun hHeld => ?_)
      · (try dsimp only); (exact HSD.out _ HTD.out.drew)
      refine wpAnyH_takeD (i := 0) (v := ?_) (some 61) rfl rfl (by kernel_rfl) (by kernel_rfl) (by kernel_rfl) (fun _ _ _ h => h) (Or.inl ⟨by rfl, ?_⟩) (by assumption) ?_
      rotate_left
      · intro w hSw; (try dsimp only at hSw); go_simp; (try with_reducible rfl)
      try simp only [Act.put, List.setIfInBounds_toArray, List.set_cons_zero, List.set_cons_succ]
      refine wpAnyH_takeD (i := 1) (v := ?_) (some 62) rfl rfl (by kernel_rfl) (by kernel_rfl) (by kernel_rfl) (fun _ _ _ h => h) (Or.inl ⟨by rfl, ?_⟩) (by assumption) ?_
      rotate_left
      · intro w hSw; (try dsimp only at hSw); go_simp; (try with_reducible rfl)
      try simp only [Act.put, List.setIfInBounds_toArray, List.set_cons_zero, List.set_cons_succ]
      refine wpAnyH_ready (rs := [2]) (by kernel_rfl) (by simp) ?_
      refine AllReadyH.cons rfl (fun K hK => ?_) AllReadyH.nil
      (have hz := HTD.out; have z0 := (HSD.out _ hz).1; have z1 := hz.k1.frozen 0; clear hz; go_simp; clear z0 z1)
      refine hK.out _ _ ?_ (fun hHeld => ?_)
      · (try dsimp only); (exact HSD.out _ (by repeat (with_reducible first | exact HTD.out | refine TwoR.drew ?_ | refine TwoR.put1 ?_ | refine TwoR.put2 ?_)))
      clear hK K
      try simp only [List.getElem_toArray, List.getElem_cons_succ, List.getElem_cons_zero]
      try simp only [Act.put, List.setIfInBounds_toArray, List.set_cons_zero, List.set_cons_succ]
      refine wpAnyH_ready (rs := [3]) (by kernel_rfl) (by simp) ?_
      refine AllReadyH.cons rfl (fun K hK => ?_) AllReadyH.nil
      (have hz : TwoR (W.setCell ⟨B + 1, 0, none⟩ (.slice (some ⟨gp, 0, none⟩) nh nh)) B g gp gs nh (cntS d zs (putS fs) (batS bt zs.length b)) (cntS d zs (fun _ _ => 1) (batS bt zs.length b)) := HTD.out.put1; have z0 := (HSD.out _ hz).2; have z1 := hz.k2.frozen 0; clear hz; go_simp; clear z0 z1)
      refine hK.out _ _ ?_ (fun hHeld => ?_)
      · (try dsimp only); (exact HSD.out _ (by repeat (with_reducible first | exact HTD.out | refine TwoR.drew ?_ | refine TwoR.put1 ?_ | refine TwoR.put2 ?_)))
      clear hK K
      try simp only [List.getElem_toArray, List.getElem_cons_succ, List.getElem_cons_zero]
      try simp only [Act.put, List.setIfInBounds_toArray, List.set_cons_zero, List.set_cons_succ]
      refine wpAnyH_done (by kernel_rfl) ?_ _
      refine NoPanic.normal ?_
      obtain ⟨w9, hw9⟩ : ∃ X, X = ((W.setCell ⟨B + 1, 0, none⟩ (.slice (some ⟨gp, 0, none⟩) nh nh)).setCell ⟨B + 1 + 1, 0, none⟩ (.slice (some ⟨gs, 0, none⟩) nh nh)).drew := ⟨_, rfl⟩
      rw [← hw9]
      have HT9 := Lib.hid (show TwoR w9 B g gp gs nh (cntS d zs (putS fs) (batS bt zs.length b)) (cntS d zs (fun _ _ => 1) (batS bt zs.length b)) from by rw [hw9]; exact HTD.out.put1.put2.drew)
      have HB9 := Lib.hid (show Below w.heap.size w w9 from by rw [hw9]; exact ((HBD.out.setCell (p := ⟨B + 1, 0, none⟩) HL1.out _).setCell (p := ⟨B + 1 + 1, 0, none⟩) HL2.out _).drew)
      have h4 := HGZ.out
      have h5 := HBG.out
      have hK9 : w9.heap[w4.heap.size]? = some (.deferred (some [])) := by rw [hw9]; exact (Below.heap_setCell _ ⟨B + 1 + 1, 0, none⟩ _ _ (by dsimp only; omega)).trans ((Below.heap_setCell _ ⟨B + 1, 0, none⟩ _ _ (by dsimp only; omega)).trans HKD.out)
      have HP9 := Lib.hid (show Below w.heap.size w (w9.putObj w4.heap.size (.deferred none)) from by
        have h6 := HB4.out.size
        refine HB9.out.trans ⟨rfl, rfl, rfl, by simp [World.putObj], fun j hj => World.putObj_heap_other (by omega)⟩)
      have HT10 := Lib.hid (show TwoR (w9.putObj w4.heap.size (.deferred none)) B g gp gs nh _ _ from HT9.out.put_other (by omega) (by omega))
      have z0 := (HSD.out _ HT10.out).1
      have z1 := (HSD.out _ HT10.out).2
      clear h4 h5 hw9
      gi_wp2
      refine ⟨by simp, .inl ⟨_, _, rfl, run_takeDeferred hK9, ?_⟩⟩
      refine ⟨.tuple #[.slice (some ⟨gp, 0, none⟩) nh nh, .slice (some ⟨gs, 0, none⟩) nh nh], by simp [results, Try.f50, go_sem, z0, z1], gp, gs, rfl, HGE.out.1, HGE.out.2, Lib.hid HT10.out.r1, Lib.hid HT10.out.r2, HP9⟩
end Go.Proofs.Ytfejedmpplbmjaa
