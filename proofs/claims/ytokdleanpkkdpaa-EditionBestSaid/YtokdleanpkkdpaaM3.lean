/- Contract of the reference's Orders; conditions: a begin that names each number at most once. -/
import Derived.Test.YtokdleanpkkdpaaL6
import Derived.Laws.AppendOwnNone
set_option linter.unusedSimpArgs false
set_option linter.unusedVariables false
namespace Go.Ed
open Go.Fh Go.RowKit Go.Proofs.Ytokdleanpkkdpaa
/-- lists in a row of lists -/
abbrev SlM := List Int × (Option Go.Addr × Nat)
def encSl1 (m : SlM) : List Go.Value := [.slice m.2.1 m.1.length m.2.2]
theorem sl1_at {B : Nat} {w : Go.World} {A : Option Go.Addr} {l : List SlM} (h : Sl encSl1 1 w B A l) {k : Nat} (hk : k < l.length) :
    ∃ b off, A = some ⟨b, off, none⟩ ∧ b < B ∧ w.cell? ⟨b, off + k, none⟩ = some (.slice l[k].2.1 l[k].1.length l[k].2.2) := by
  obtain ⟨b, off, hA, hb, hc⟩ := h.at_ hk
  exact ⟨b, off, hA, hb, by simpa using hc 0 _ rfl⟩
end Go.Ed
namespace Go.Proofs.Ytokdleanpkkdpaa
open Go.RowKit Go.Fh Go.Ed
set_option maxRecDepth 20000 in
set_option maxHeartbeats 1000000 in
theorem clo72_any (g : Nat) (A zA : Option Addr) (c zc : Nat) (l vs : List Int) (p q : Value) (w : World) (hl : l.length ≤ 1000000000) (hv : vs.length ≤ 1000000000) (hg : Blk w g 47 #[p, q, .slice zA vs.length zc]) (hA : Sl encInt 1 w w.heap.size A l) (hZ : Sl encInt 1 w w.heap.size zA vs) :
    Calls Try.prog 72 #[.slice A l.length c, .pointer (some ⟨g, 0, none⟩)] w fun e w' => ∃ b, e = .returned (.bool b) ∧ Below w.heap.size w w' := by
  have HE := Lib.hid (equalInts_any A zA c zc l vs w (by omega) (by omega) hA hZ)
  have r2 := hg.cell 2
  simp at r2
  clear hg hA hZ
  go_enter Try.func72, Try.ntmps72
  go_wp2_with (go_at_call 19; refine HE.out.mono ?_; rintro e w' ⟨rfl, hb⟩)
  go_ret
  exact ⟨_, rfl, hb⟩
set_option maxRecDepth 20000 in
set_option maxHeartbeats 1000000 in
theorem idx115_any (g : Nat) (A zA : Option Addr) (c n zc : Nat) (l : List SlM) (vs : List Int) (p q : Value) (w : World) (hn : l.length = n) (hn9 : n ≤ 1000) (hl : ∀ m ∈ l, m.1.length ≤ 1000000000) (hv : vs.length ≤ 1000000000) (hg : Blk w g 47 #[p, q, .slice zA vs.length zc]) (hA : Sl encSl1 1 w w.heap.size A l) (hM : ∀ i (h : i < l.length), Sl encInt 1 w w.heap.size l[i].2.1 l[i].1) (hZ : Sl encInt 1 w w.heap.size zA vs) :
    Calls Try.prog 115 #[.slice A n c, .func (.func 72) #[] #[.pointer (some ⟨g, 0, none⟩)]] w fun e w' => ∃ r : Int, e = .returned (.int .i64 r) ∧ Below w.heap.size w w' := by
  have HA := Lib.hid hA
  have HM := Lib.hid hM
  have HZ := Lib.hid hZ
  have HG := Lib.hid hg
  have HL := Lib.hid hl
  clear hA hM hZ hg hl
  go_enter Try.func115, Try.ntmps115
  go_wp2_with fail
  go_loopw [8] (fun i wr => ∃ k : Nat, k ≤ n ∧ i = .int .i64 k ∧ Hid (Below w.heap.size w wr)) (fun i _ => n - (intOf i).toNat)
  case atStart => exact ⟨0, Nat.zero_le _, rfl, Below.refl _ _⟩
  case round =>
    obtain ⟨k, hk, rfl, HB⟩ := hrel
    by_cases hlt : k < n
    · have hkl : k < l.length := by omega
      obtain ⟨b, off, hba, hb, c0⟩ := sl1_at (HA.out.below HB.out) hkl
      subst hba
      have HC := Lib.hid (clo72_any g l[k].2.1 zA l[k].2.2 zc l[k].1 vs p q wr (HL.out _ (List.getElem_mem hkl)) hv (HG.out.below HB.out HG.out.lt) (((HM.out k hkl).below HB.out).mono HB.out.size) ((HZ.out.below HB.out).mono HB.out.size))
      have i0 : (0 : Int) ≤ (k : Int) := by omega
      have i1 : (k : Int) < (n : Int) := by omega
      go_wp2_with (go_at_call 72; refine HC.out.mono ?_; rintro e w' ⟨bb, rfl, hb'⟩; have HB2 := Lib.hid (HB.out.trans (hb'.mono HB.out.size)); clear hb'; cases bb)
      · go_roundw
        case rel => exact ⟨k + 1, by omega, by go_num, HB2⟩
        case measure => simp [intOf]; omega
      · go_ret
        exact ⟨_, rfl, HB2.out⟩
    · obtain rfl : k = n := by omega
      go_wp2_with fail
      go_ret
      exact ⟨_, rfl, HB.out⟩
set_option maxRecDepth 20000 in
set_option maxHeartbeats 1000000 in
theorem has71_any (g : Nat) (A zA : Option Addr) (c n zc : Nat) (l : List SlM) (vs : List Int) (p q : Value) (w : World) (hn : l.length = n) (hn9 : n ≤ 1000) (hl : ∀ m ∈ l, m.1.length ≤ 1000000000) (hv : vs.length ≤ 1000000000) (hg : Blk w g 47 #[p, q, .slice zA vs.length zc]) (hA : Sl encSl1 1 w w.heap.size A l) (hM : ∀ i (h : i < l.length), Sl encInt 1 w w.heap.size l[i].2.1 l[i].1) (hZ : Sl encInt 1 w w.heap.size zA vs) :
    Calls Try.prog 71 #[.slice A n c, .func (.func 72) #[] #[.pointer (some ⟨g, 0, none⟩)]] w fun e w' => ∃ b, e = .returned (.bool b) ∧ Below w.heap.size w w' := by
  have HI := Lib.hid (idx115_any g A zA c n zc l vs p q w hn hn9 hl hv hg hA hM hZ)
  clear hA hM hZ hg hl hv hn hn9
  go_enter Try.func71, Try.ntmps71
  go_wp2_with (go_at_call 115; refine HI.out.mono ?_; rintro e w' ⟨r, rfl, hb⟩)
  go_ret
  exact ⟨_, rfl, hb⟩
end Go.Proofs.Ytokdleanpkkdpaa
namespace Go.Proofs.Ytokdleanpkkdpaa
open Go.RowKit Go.Fh Go.Ed
theorem infoSl22 : (Try.prog.info? 22).map (fun i => (i.zero, i.size, i.bytes)) = some (some (.slice none 0 0), 1, 24) := by kernel_rfl
set_option maxRecDepth 20000 in
set_option maxHeartbeats 2000000 in
theorem few_any (t : TitD) (x : TA) (zs : List ZonM) (w : World) (hgr : greatB t = false) (hT : TitAt w w.heap.size t x zs) :
    Calls Try.prog 25 #[.agg #[.slice x.a t.colours.length x.ca, .slice x.b t.pairs.length x.cb, .slice x.z t.zones.length x.cz, .slice x.r t.ready.length x.cr, .int .i64 t.start, .int .i64 t.rate, .int .i64 t.stop, .int .i64 t.hang]] w fun e w' => ∃ b, e = .returned (.bool b) ∧ Below w.heap.size w w' := by
  obtain ⟨-, -, g3, -, g5⟩ := great_sizes hgr
  obtain ⟨w1, hw1⟩ : ∃ W, W = w.alloc (.cells #[.slice x.a t.colours.length x.ca, .slice x.b t.pairs.length x.cb, .slice x.z t.zones.length x.cz, .slice x.r t.ready.length x.cr, .int .i64 t.start, .int .i64 t.rate, .int .i64 t.stop, .int .i64 t.hang] 26) := ⟨_, rfl⟩
  have hb1 : Below w.heap.size w w1 := by rw [hw1]; exact balR (Below.refl _ _) _
  obtain ⟨gT, hgT⟩ : ∃ g, g = w.heap.size := ⟨_, rfl⟩
  have kT : Blk w1 gT 26 (titV t x) := by rw [hw1, hgT]; exact Blk.new _ _ _
  obtain ⟨r0, r1, r2, r3, r4, r5, r6, r7⟩ := box26 t x kT w1 (Below.refl _ _)
  obtain ⟨xz, hxz⟩ : ∃ a, a = x.z := ⟨_, rfl⟩
  rw [← hxz] at r2
  have HTB := Lib.hid (fun W (hb : Below w1.heap.size w1 W) => (hT.below (hb1.trans (hb.mono hb1.size))).mono ((hb1.trans (hb.mono hb1.size)).size))
  have HV := Lib.hid (show ∀ i (h : i < zs.length), zs[i].1.variants.length ≤ 70 from fun i h => g5 _ (by rw [← hT.zeq]; exact List.mem_map.2 ⟨_, List.getElem_mem h, rfl⟩))
  have HZL := Lib.hid hT.zlen
  have HXZ := Lib.hid hxz
  have HB1 := Lib.hid hb1
  have HW1 := Lib.hid hw1
  have HGT := Lib.hid hgT
  obtain ⟨i22, hi22, s0, s1, s2⟩ := info_parts infoSl22
  have HI22 := Lib.hid hi22
  clear hb1 hw1 hgT kT hT g5 hgr hi22
  clear hxz
  go_enter Try.func25, Try.ntmps25
  go_upto_region 1 with fail
  rw [← HW1.out, ← HGT.out]
  go_wp2_with fail
  clear r0 r1 r2 r3 r4 r5 r6 r7
  go_loopw [3, 9] (fun v i wr => ∃ (k : Nat) (met : List SlM) (A : Option Addr) (c : Nat), k ≤ t.zones.length ∧ i = .int .i64 k ∧ v = .slice A met.length c ∧ met.length ≤ k ∧ Hid (wr.ownsRow w1.heap.size 22 1 (.slice A met.length c) met.length (met.flatMap encSl1)) ∧ Hid (∀ m ∈ met, ∃ i, ∃ h : i < zs.length, m = (zs[i].1.variants, zs[i].2)) ∧ Hid (Below w1.heap.size w1 wr)) (fun _ i _ => t.zones.length - (intOf i).toNat)
  case atStart => exact ⟨0, [], none, 0, Nat.zero_le _, rfl, rfl, Nat.le_refl _, World.ownsRow_nil _ _ _ _, Lib.hid (fun m h => absurd h (by simp)), Below.refl _ _⟩
  case round =>
    obtain ⟨k, met, A, c, hk, rfl, rfl, hmk, HO, HM, HB⟩ := hrel
    by_cases hlt : k < t.zones.length
    · skip
      have hkz : k < zs.length := by rw [HZL.out]; exact hlt
      have HTW := Lib.hid (HTB.out _ HB.out)
      obtain ⟨tb, to_, htz, htb, c0, c1, c2⟩ := Sl.atZon HTW.out.cZ hkz
      have hx2 : xz = some ⟨tb, to_, none⟩ := HXZ.out.trans htz
      subst hx2
      have hv := HV.out k hkz
      have HZS := Lib.hid (HTW.out.cV k hkz)
      have HZK := Lib.hid (show ∃ i, ∃ h : i < zs.length, (zs[k].1.variants, zs[k].2) = ((zs[i].1.variants, zs[i].2) : SlM) from ⟨k, hkz, rfl⟩)
      obtain ⟨⟨z, zA, zc⟩, hz⟩ : ∃ z, z = zs[k] := ⟨_, rfl⟩
      rw [← hz] at c0 c1 c2 hv HZS HZK
      dsimp only at c0 c1 c2 hv HZS HZK
      obtain ⟨g5, hg5⟩ : ∃ g, g = wr.heap.size := ⟨_, rfl⟩
      obtain ⟨w5, hw5⟩ : ∃ W, W = wr.alloc (.cells #[.int .i64 z.copies, .int .i64 z.due, .slice zA z.variants.length zc] 47) := ⟨_, rfl⟩
      have k5 : Blk w5 g5 47 #[.int .i64 z.copies, .int .i64 z.due, .slice zA z.variants.length zc] := by rw [hw5, hg5]; exact Blk.new _ _ _
      have hb5 : Below wr.heap.size wr w5 := by rw [hw5]; exact balR (Below.refl _ _) _
      have HB5 := Lib.hid (HB.out.trans (hb5.mono HB.out.size))
      have HO5 := Lib.hid (own_belowV HO.out hb5)
      have HZ5 := Lib.hid ((HZS.out.below hb5).mono hb5.size)
      have HK5 := Lib.hid k5
      have HF := Lib.hid (has71_any g5 A zA c met.length zc met z.variants (.int .i64 z.copies) (.int .i64 z.due) w5 rfl (by omega) (fun m hm => by
        obtain ⟨i, h, rfl⟩ := HM.out m hm
        have := HV.out i h
        show zs[i].1.variants.length ≤ _
        omega) (by omega) k5 (Sl.of_own (enc := encSl1) (fun _ => rfl) HO5.out) (fun i h => by
        obtain ⟨j, hj, e⟩ := HM.out met[i] (List.getElem_mem h)
        rw [e]
        exact (HTB.out _ HB5.out).cV j hj) HZ5.out)
      have p0 := k5.cell 0
      have p1 := k5.cell 1
      have p2 := k5.cell 2
      simp at p0 p1 p2
      have hg5l := k5.lt
      have HW5 := Lib.hid hw5
      have HG5 := Lib.hid hg5
      have i0 : (0 : Int) ≤ (k : Int) := by omega
      have i1 : (k : Int) < (t.zones.length : Int) := by omega
      clear hw5 hg5 k5 hb5 hz htz
      go_upto_region 5 with fail
      rw [← HW5.out, ← HG5.out]
      clear c0 c1 c2
      by_cases hcp : 0 < z.copies
      · have hd : decide ((0 : Int) < z.copies) = true := by simpa using hcp
        clear hcp
        go_upto_if 21 with (go_at_call 71; refine HF.out.mono ?_; rintro e w6 ⟨b6, rfl, hb6⟩; have HB6 := Lib.hid (HB5.out.trans (hb6.mono HB5.out.size)); have HO6 := Lib.hid (own_belowV HO5.out hb6); have k6 := HK5.out.below hb6 HK5.out.lt; clear hb6 p0 p1 p2; have p2 := k6.cell 2; simp at p2; have hg6 := k6.lt; clear k6)
        cases b6
        · have hm1 : met.length + 1 ≤ maxLen := by simp only [maxLen]; omega
          have hm2 : (met.length + 1) * 24 ≤ 140737488355328 := by omega
          have hs6 := HB6.out.size
          go_wp2_with (at_builtin; refine wpList_append_lies _ rfl (.tmp 22) (.tmp 25) 127 rfl w1.heap.size 22 i22 _ 1 24 Try.underlying127 HI22.out s0 s1 s2 rfl (by decide) (.slice A met.length c) met.length (met.flatMap encSl1) rfl (HO6.out.alloc _) ⟨w6.heap.size, 0, none⟩ 1 1 [.slice zA z.variants.length zc] rfl rfl (news_of1 w6 22 #[.slice zA z.variants.length zc]) (by intro u hu; simp at hu; subst hu; rfl) (by decide) hm1 hm2 (by simp; omega) (w6.heap.size + 1) (by simp) ?_; intro g9 cap9 w9 hown9 hgrow9 hat9 hlt9; have hb9 := (HB6.out.alloc hs6 (.cells #[.slice zA z.variants.length zc] 22)).grown hgrow9 (by simp; omega) (fun p hp => (HO6.out.lt p hp).1); have HB9 := Lib.hid hb9; have HO9 := Lib.hid hown9; clear hb9 hown9 hgrow9 hat9)
          go_roundw
          case rel =>
            refine ⟨k + 1, met ++ [(z.variants, (zA, zc))], some ⟨g9, 0, none⟩, cap9, by omega, by go_num, by simp, by simp; omega, Lib.hid ?_, Lib.hid fun m hm => ?_, HB9⟩
            · have h := HO9.out
              rw [List.length_append, List.flatMap_append]
              exact h
            · rcases List.mem_append.1 hm with h | h
              · exact HM.out m h
              · simp at h; subst h; exact HZK.out
          case measure => simp [intOf]; omega
        · go_wp2_with fail
          go_roundw
          case rel => exact ⟨k + 1, met, A, c, by omega, by go_num, rfl, by omega, HO6, HM, HB6⟩
          case measure => simp [intOf]; omega
      · have hd : decide ((0 : Int) < z.copies) = false := by simpa using hcp
        clear hcp
        go_wp2_with fail
        go_roundw
        case rel => exact ⟨k + 1, met, A, c, by omega, by go_num, rfl, by omega, HO5, HM, HB5⟩
        case measure => simp [intOf]; omega
    · skip
      cases hq1 : decide ((met.length : Int) ≤ 5)
      · go_wp2_with fail
        go_ret
        exact ⟨_, rfl, HB1.out.trans (HB.out.mono HB1.out.size)⟩
      · go_wp2_with fail
        go_ret
        exact ⟨_, rfl, HB1.out.trans (HB.out.mono HB1.out.size)⟩
end Go.Proofs.Ytokdleanpkkdpaa
namespace Go.Ed
open Go.Fh Go.RowKit Go.Proofs.Ytokdleanpkkdpaa
def casts (o : List Nat) : List Int := o.map fun (e : Nat) => (e : Int)
theorem casts_snoc (o : List Nat) (e : Nat) : casts (o ++ [e]) = casts o ++ [(e : Int)] := by simp [casts]
theorem casts_len (o : List Nat) : (casts o).length = o.length := by simp [casts]
/-- the orders of the numbers below k that follow -/
def ordK (n fuel : Nat) (o : List Nat) (k : Nat) : List (List Nat) := (List.range k).flatMap fun e => if o.contains e then [] else allO n fuel (o ++ [e])
theorem ordK_yes {n fuel : Nat} {o : List Nat} {k : Nat} (h : k ∈ o) : ordK n fuel o (k + 1) = ordK n fuel o k := by
  unfold ordK; rw [List.range_succ, List.flatMap_append]; simp [h]
theorem ordK_no {n fuel : Nat} {o : List Nat} {k : Nat} (h : k ∉ o) : ordK n fuel o (k + 1) = ordK n fuel o k ++ allO n fuel (o ++ [k]) := by
  unfold ordK; rw [List.range_succ, List.flatMap_append]; simp [h]
theorem ordK_all {n fuel : Nat} {o : List Nat} (h : o.length ≠ n) : ordK n fuel o n = allO n (fuel + 1) o := by
  unfold ordK; simp [allO, h]
theorem ordK_0 (n fuel : Nat) (o : List Nat) : ordK n fuel o 0 = [] := rfl
theorem flatLen {α : Type} (f : Nat → List α) (B : Nat) (h : ∀ e, (f e).length ≤ B) : ∀ k, ((List.range k).flatMap f).length ≤ k * B := by
  intro k
  induction k with
  | zero => simp
  | succ k ih =>
    rw [List.range_succ, List.flatMap_append, List.length_append, Nat.succ_mul]
    have := h k
    simp only [List.flatMap_cons, List.flatMap_nil, List.append_nil]
    omega
theorem allO_len (n : Nat) (hn : n ≤ 7) : ∀ fuel (o : List Nat), (allO n fuel o).length ≤ 8 ^ fuel := by
  intro fuel
  induction fuel with
  | zero => intro o; unfold allO; split <;> simp
  | succ fuel ih =>
    intro o
    have hp : 0 < 8 ^ fuel := Nat.pow_pos (by omega)
    rw [Nat.pow_succ]
    unfold allO
    split
    · simp; omega
    · have := flatLen (fun e => if o.contains e then [] else allO n fuel (o ++ [e])) (8 ^ fuel) (fun e => by
        split
        · simp
        · exact ih _) n
      have h2 : n * 8 ^ fuel ≤ 7 * 8 ^ fuel := Nat.mul_le_mul_right _ hn
      omega
theorem pow8 {fuel : Nat} (h : fuel ≤ 7) : 8 ^ fuel ≤ 2097152 := by
  have : (8 : Nat) ^ fuel ≤ 8 ^ 7 := Nat.pow_le_pow_right (by omega) h
  simpa using this
/-- a list that lies in a block of its own type -/
def RowI (W : Go.World) (A : Option Go.Addr) (l : List Int) : Prop := l ≠ [] → ∃ (g : Nat) (cs : Array Go.Value), A = some ⟨g, 0, none⟩ ∧ Blk W g 3 cs ∧ ∀ (k : Nat) (x : Int), l[k]? = some x → cs[k]? = some (Go.Value.int .i64 x)
section
variable {W W' : Go.World} {A : Option Go.Addr} {l : List Int}
theorem RowI.below (h : RowI W A l) (hb : Below W.heap.size W W') : RowI W' A l := fun hn => by
  obtain ⟨g, cs, hA, hk, hc⟩ := h hn
  exact ⟨g, cs, hA, hk.below hb hk.lt, hc⟩
theorem RowI.turn (h : RowI W A l) {b s n : Nat} {e : Go.TypeId} {v : Go.Value} {xs : List Go.Value} (ho : W.ownsRow b e s v n xs) (he : e ≠ 3) (hg : W.grownBy W' v.ownBlock) : RowI W' A l := fun hn => by
  obtain ⟨g, cs, hA, hk, hc⟩ := h hn
  exact ⟨g, cs, hA, hk.grown hg (own_blk_ne ho hk he), hc⟩
theorem RowI.sl (h : RowI W A l) : Sl encInt 1 W W.heap.size A l := fun hn => by
  obtain ⟨g, cs, hA, hk, hc⟩ := h hn
  refine ⟨g, 0, hA, hk.lt, fun k x hx j u hu => ?_⟩
  have : j = 0 ∧ u = Go.Value.int .i64 x := by
    cases j with
    | zero => simp [encInt] at hu; exact ⟨rfl, hu.symm⟩
    | succ j => simp [encInt] at hu
  obtain ⟨rfl, rfl⟩ := this
  rw [hk.cell]
  simpa using hc k x hx
theorem RowI.own {b c : Nat} (h : W.ownsRow b 3 1 (.slice A l.length c) l.length (l.map (Go.Value.int .i64))) : RowI W A l := fun hn => by
  have hp : 0 < l.length := List.length_pos_iff.2 hn
  rcases h.2 with ⟨_, h0⟩ | ⟨g, cap, cur, hv, hb, hh, hle, hcap, hsz, htake⟩
  · omega
  · injection hv with hA h2 h3
    subst hA
    refine ⟨g, cur, rfl, hh, fun k x hx => ?_⟩
    have hk : k < l.length := (List.getElem?_eq_some_iff.1 hx).1
    have h1 : (cur.toList.take (l.length * 1))[k]? = some (Go.Value.int .i64 x) := by rw [htake]; simp [hx]
    rw [List.getElem?_take_of_lt (by omega)] at h1
    simpa using h1
end
/-- what Orders gives -/
def OrdP (n fuel : Nat) (o : List Nat) (w : Go.World) (e : Go.Ending) (w' : Go.World) : Prop :=
  ∃ (A : Option Go.Addr) (c : Nat) (ms : List SlM), e = .returned (.slice A ms.length c) ∧ ((0 < ms.length ∧ ∃ g, A = some ⟨g, 0, none⟩) ∨ (A = none ∧ c = 0 ∧ ms = [])) ∧ ms.map (·.1) = (allO n fuel o).map casts ∧ w'.ownsRow w.heap.size 22 1 (.slice A ms.length c) ms.length (ms.flatMap encSl1) ∧ (∀ m ∈ ms, RowI w' m.2.1 m.1) ∧ Below w.heap.size w w'
end Go.Ed
namespace Go.Proofs.Ytokdleanpkkdpaa
open Go.RowKit Go.Fh Go.Ed
theorem sl_snoc {W : World} {b g cap : Nat} {o : List Nat} {k : Nat} (h : W.ownsRow b 3 1 (.slice (some ⟨g, 0, none⟩) (o.length + 1) cap) (o.length + 1) ((casts o).map (Value.int .i64) ++ [.int .i64 (k : Int)])) : RowI W (some ⟨g, 0, none⟩) (casts (o ++ [k])) := by
  rw [show (casts o).map (Value.int .i64) ++ [.int .i64 (k : Int)] = (casts (o ++ [k])).map (Value.int .i64) by simp [casts], show o.length + 1 = (casts (o ++ [k])).length by simp [casts]] at h
  exact RowI.own h
theorem encSl1_one (l : List SlM) : ∀ u ∈ l.flatMap encSl1, u.oneCell' = true := fun u hu => by
  rw [List.mem_flatMap] at hu
  obtain ⟨m, _, hm⟩ := hu
  simp [encSl1] at hm
  subst hm; rfl
theorem own_one (w : World) (e : TypeId) (u : Value) (hu : u.oneCell' = true) : (w.alloc (.cells #[u] e)).ownsRow w.heap.size e 1 (.slice (some ⟨w.heap.size, 0, none⟩) 1 1) 1 [u] := by
  refine ⟨rfl, .inr ⟨w.heap.size, 1, #[u], rfl, Nat.le_refl _, Blk.new _ _ _, Nat.le_refl _, by decide, rfl, rfl⟩⟩
set_option maxRecDepth 20000 in
set_option maxHeartbeats 2000000 in
theorem orders_ref (n : Nat) (hn : n ≤ 7) : ∀ (fuel : Nat) (o : List Nat) (A : Option Addr) (c : Nat) (w : World), fuel ≤ 8 → n < o.length + fuel → o.length ≤ n → RowI w A (casts o) →
    Calls Try.prog 127 #[.slice A o.length c, .int .i64 (n : Int)] w fun e w' => OrdP n fuel o w e w' := by
  intro fuel
  induction fuel with
  | zero => intro o A c w hf h1 h2; omega
  | succ fuel ih =>
    intro o A c w hf h1 h2 hA
    by_cases hl : o.length = n
    · skip
      have hal : allO n (fuel + 1) o = [o] := by simp [allO, hl]
      have HP := Lib.hid (show ∀ W, W = w.alloc (.cells #[.slice A o.length c] 22) → OrdP n (fuel + 1) o w (.returned (.slice (some ⟨w.heap.size, 0, none⟩) 1 1)) W from fun W hW => by
        subst hW
        refine ⟨some ⟨w.heap.size, 0, none⟩, 1, [(casts o, (A, c))], rfl, .inl ⟨by simp, _, rfl⟩, by rw [hal]; rfl, ?_, ?_, balR (Below.refl _ _) _⟩
        · have := own_one w 22 (.slice A o.length c) rfl
          simpa [encSl1, casts_len] using this
        · intro m hm
          simp at hm
          subst hm
          exact hA.below (balR (Below.refl _ _) _))
      have hd : ((o.length : Int) == (n : Int)) = true := by simp [hl]
      clear hA hal ih
      go_enter Try.func127, Try.ntmps127
      go_wp2_with fail
      go_ret
      exact HP.out _ (by rw [hl])
    · skip
      have hd : ((o.length : Int) == (n : Int)) = false := by simp; omega
      have HA := Lib.hid hA
      have HIH := Lib.hid ih
      have HALL := Lib.hid (ordK_all (n := n) (fuel := fuel) hl)
      have h3 : o.length < n := by omega
      clear hA ih hl
      go_enter Try.func127, Try.ntmps127
      go_wp2_with fail
      obtain ⟨i22, hi22, s0, s1, s2⟩ := info_parts infoSl22
      have HI22 := Lib.hid hi22
      obtain ⟨i3, hi3, z0, z1, z2⟩ := info_parts infoInt
      have HI3 := Lib.hid hi3
      clear hi22 hi3
      go_loopw [5, 6] (fun v i wr => ∃ (k : Nat) (ms : List SlM) (A1 : Option Addr) (c1 : Nat), k ≤ n ∧ i = .int .i64 k ∧ v = .slice A1 ms.length c1 ∧ ms.length ≤ 2097152 * k ∧ Hid ((0 < ms.length ∧ ∃ g, A1 = some ⟨g, 0, none⟩) ∨ (A1 = none ∧ c1 = 0 ∧ ms = [])) ∧ Hid (ms.map (·.1) = (ordK n fuel o k).map casts) ∧ Hid (wr.ownsRow w.heap.size 22 1 (.slice A1 ms.length c1) ms.length (ms.flatMap encSl1)) ∧ Hid (∀ m ∈ ms, RowI wr m.2.1 m.1) ∧ Hid (Below w.heap.size w wr)) (fun _ i _ => n - (intOf i).toNat)
      case atStart => exact ⟨0, [], none, 0, Nat.zero_le _, rfl, rfl, Nat.le_refl _, Lib.hid (.inr ⟨rfl, rfl, rfl⟩), Lib.hid rfl, World.ownsRow_nil _ _ _ _, Lib.hid (fun m h => absurd h (by simp)), Below.refl _ _⟩
      case round =>
        obtain ⟨k, ms, A1, c1, hk, rfl, rfl, hml, HNE, HMS, HO, HM, HB⟩ := hrel
        by_cases hlt : k < n
        · skip
          go_wp2_with fail
          go_loopw [8, 7] (fun i b wr2 => ∃ (q : Nat) (f : Bool), q ≤ o.length ∧ i = .int .i64 q ∧ b = .bool f ∧ Hid (f = true ↔ ∃ j, ∃ h : j < o.length, j < q ∧ o[j] = k) ∧ wr = wr2) (fun i _ _ => o.length - (intOf i).toNat)
          case atStart => exact ⟨0, false, Nat.zero_le _, rfl, rfl, Lib.hid (by constructor; (intro h; cases h); (rintro ⟨j, _, h, _⟩; omega)), rfl⟩
          case round =>
            obtain ⟨q, f, hq, rfl, rfl, HF, rfl⟩ := hrel
            by_cases hlq : q < o.length
            · skip
              have hqc : q < (casts o).length := by rw [casts_len]; exact hlq
              obtain ⟨pb, po, hpa, hpb, c0⟩ := (HA.out.below HB.out).sl.at1 hqc
              subst hpa
              have hcq : (casts o)[q] = ((o[q] : Nat) : Int) := by simp [casts]
              rw [hcq] at c0
              obtain ⟨x, hx⟩ : ∃ x, x = o[q] := ⟨_, rfl⟩
              rw [← hx] at c0
              have HX := Lib.hid hx
              have i0 : (0 : Int) ≤ (q : Int) := by omega
              have i1 : (q : Int) < (o.length : Int) := by omega
              clear hx hcq hqc
              cases f
              · cases he : ((x : Int) == (k : Int))
                · have HE := Lib.hid he
                  clear he
                  go_wp2_with fail
                  go_roundw
                  case rel =>
                    refine ⟨q + 1, false, by omega, by go_num, by rw [HE.out], Lib.hid ?_, trivial⟩
                    constructor
                    · intro h; cases h
                    · rintro ⟨j, hj, hjq, e⟩
                      by_cases hjq2 : j = q
                      · subst hjq2
                        have h1 := HX.out
                        have h2 := HE.out
                        rw [← e, h1] at h2
                        simp at h2
                      · exact HF.out.2 ⟨j, hj, by omega, e⟩
                  case measure => simp [intOf]; omega
                · have HE := Lib.hid he
                  obtain rfl : x = k := by have := he; simp at this; omega
                  clear he
                  go_wp2_with fail
                  go_roundw
                  case rel => exact ⟨q + 1, true, by omega, by go_num, by simp, Lib.hid ⟨fun _ => ⟨q, hlq, by omega, HX.out.symm⟩, fun _ => rfl⟩, trivial⟩
                  case measure => simp [intOf]; omega
              · go_wp2_with fail
                go_roundw
                case rel =>
                  obtain ⟨j, hj, hjq, e⟩ := HF.out.1 rfl
                  exact ⟨q + 1, true, by omega, by go_num, rfl, Lib.hid ⟨fun _ => ⟨j, hj, by omega, e⟩, fun _ => rfl⟩, trivial⟩
                case measure => simp [intOf]; omega
            · skip
              obtain rfl : q = o.length := by omega
              cases f
              · skip
                have hno : k ∉ o := fun h => by
                  obtain ⟨j, hj, e⟩ := List.getElem_of_mem h
                  have := HF.out.2 ⟨j, hj, hj, e⟩
                  cases this
                have HMS2 := Lib.hid (ordK_no (n := n) (fuel := fuel) hno)
                have HCP := Lib.hid (copyInts_any A c (casts o) wr (by rw [casts_len]; omega) (HA.out.below HB.out).sl)
                rw [casts_len] at HCP
                have HREC := Lib.hid (show ∀ A2 c2 W, RowI W A2 (casts (o ++ [k])) → Calls Try.prog 127 #[.slice A2 (o.length + 1) c2, .int .i64 (n : Int)] W fun e w' => OrdP n fuel (o ++ [k]) W e w' from fun A2 c2 W h => by
                  have := HIH.out (o ++ [k]) A2 c2 W (by omega) (by simp; omega) (by simp; omega) h
                  rw [List.length_append] at this
                  exact this)
                have hal := allO_len n hn fuel (o ++ [k])
                have hp8 := pow8 (show fuel ≤ 7 by omega)
                have hm1 : o.length + 1 ≤ maxLen := by simp only [maxLen]; omega
                have hm2 : (o.length + 1) * 8 ≤ 140737488355328 := by omega
                have hsz := HB.out.size
                clear hno
                go_upto_region 6 with first
                  | (go_at_call 124; refine HCP.out.mono ?_; rintro e w4 ⟨A4, c4, rfl, ho4, hb4⟩; have HB4 := Lib.hid (HB.out.trans (hb4.mono hsz)); have HBR4 := Lib.hid hb4; have HO4 := Lib.hid ho4; have hs4 := hb4.size; clear ho4 hb4)
                  | (at_builtin; refine wpList_append_lies _ rfl (.tmp 39) (.tmp 41) 22 rfl wr.heap.size 3 i3 _ 1 8 Try.underlying22 HI3.out z0 z1 z2 rfl (by decide) (.slice A4 o.length c4) o.length ((casts o).map (Value.int .i64)) rfl (HO4.out.alloc _) ⟨w4.heap.size, 0, none⟩ 1 1 [.int .i64 (k : Int)] rfl rfl (news_of1 w4 3 #[.int .i64 (k : Int)]) (by intro u hu; simp at hu; subst hu; rfl) (by decide) hm1 hm2 (by simp; omega) (w4.heap.size + 1) (by simp) ?_; intro g5 cap5 w5 hown5 hgrow5 hat5 hlt5; have hb5 := (HBR4.out.alloc hs4 (.cells #[.int .i64 (k : Int)] 3)).grown hgrow5 (by simp; omega) (fun p hp => (HO4.out.lt p hp).1); have HBR5 := Lib.hid hb5; have HSL5 := Lib.hid (sl_snoc hown5); clear hown5 hgrow5 hat5 hb5)
                  | (go_at_call 127; refine (HREC.out _ _ _ HSL5.out).mono ?_; rintro e w6 ⟨A6, c6, ms6, rfl, hne6, hm6, ho6, hs6, hb6⟩; have hl6 : ms6.length ≤ 2097152 := by { have := congrArg List.length hm6; simp at this; omega }; have HM6 := Lib.hid hm6; have HO6 := Lib.hid ho6; have HS6 := Lib.hid hs6; have HB6 := Lib.hid (HBR5.out.trans (hb6.mono HBR5.out.size)); have HW6 := Lib.hid (HB.out.trans (HB6.out.mono HB.out.size)); have HO16 := Lib.hid (own_belowV HO.out HB6.out); clear hm6 ho6 hs6 hb6; have hs16 := HB6.out.size; have hnb : (ms.length + ms6.length) * 24 ≤ 140737488355328 := by { omega }; have hnl : ms.length + ms6.length ≤ maxLen := by { simp only [maxLen]; omega }; have hw6 := HW6.out.size; have HSF := Lib.hid (Sl.of_own (enc := encSl1) (fun _ => rfl) HO6.out); have HFL := Lib.hid (show (ms6.flatMap encSl1).length = ms6.length * 1 from length_flat (enc := encSl1) (fun _ => rfl) ms6); have HOC := Lib.hid (encSl1_one ms6); rcases hne6 with ⟨hpos, g6, rfl⟩ | ⟨rfl, rfl, rfl⟩)
                  | (at_builtin; refine wpList_append_lies _ rfl (.tmp 37) (.tmp 44) 127 rfl w.heap.size 22 i22 _ 1 24 Try.underlying127 HI22.out s0 s1 s2 rfl (by decide) (.slice A1 ms.length c1) ms.length (ms.flatMap encSl1) rfl HO16.out ⟨g6, 0, none⟩ ms6.length c6 (ms6.flatMap encSl1) rfl HFL.out (Sl.flat (enc := encSl1) (fun _ => rfl) HSF.out) HOC.out hpos hnl hnb hw6 w6.heap.size rfl ?_; intro g9 cap9 w9 hown9 hgrow9 hat9 hlt9; have HB9 := Lib.hid (HW6.out.grown hgrow9 hw6 (fun p hp => (HO16.out.lt p hp).1)); have HO9 := Lib.hid hown9; have HMT := Lib.hid (show ∀ m ∈ ms ++ ms6, RowI w9 m.2.1 m.1 from fun m hm => RowI.turn ((List.mem_append.1 hm).elim (fun h => (HM.out m h).below HB6.out) (fun h => HS6.out m h)) HO16.out (by decide) hgrow9); clear hown9 hgrow9 hat9 hlt9)
                  | (at_builtin; refine wpList_append_own_none rfl (.tmp 37) (.tmp 44) 127 rfl w.heap.size 22 i22 1 Try.underlying127 HI22.out (.slice A1 ms.length c1) ms.length (ms.flatMap encSl1) rfl HO16.out rfl ?_)
                · go_wp2_with fail
                  go_roundw
                  case rel =>
                    refine ⟨k + 1, ms ++ ms6, some ⟨g9, 0, none⟩, cap9, by omega, by go_num, by simp, by simp; omega, Lib.hid (.inl ⟨by simp; omega, _, rfl⟩), Lib.hid ?_, Lib.hid ?_, HMT, HB9⟩
                    · rw [HMS2.out, List.map_append, List.map_append, HMS.out, HM6.out]
                    · have h := HO9.out
                      rw [List.length_append, List.flatMap_append]
                      exact h
                  case measure => simp [intOf]; omega
                · go_wp2_with fail
                  go_roundw
                  case rel =>
                    refine ⟨k + 1, ms, A1, c1, by omega, by go_num, rfl, by omega, HNE, Lib.hid ?_, HO16, Lib.hid (fun m h => (HM.out m h).below HB6.out), HW6⟩
                    have h6 : allO n fuel (o ++ [k]) = [] := by
                      have := HM6.out
                      simpa using this.symm
                    rw [HMS2.out, h6, List.append_nil]
                    exact HMS.out
                  case measure => simp [intOf]; omega
              · skip
                have hmem : k ∈ o := by
                  obtain ⟨j, hj, _, e⟩ := HF.out.1 rfl
                  rw [← e]; exact List.getElem_mem hj
                have HMS2 := Lib.hid (show ms.map (·.1) = (ordK n fuel o (k + 1)).map casts by rw [ordK_yes hmem]; exact HMS.out)
                clear hmem
                go_wp2_with fail
                go_roundw
                case rel => exact ⟨k + 1, ms, A1, c1, by omega, by go_num, rfl, by omega, HNE, HMS2, HO, HM, HB⟩
                case measure => simp [intOf]; omega
        · skip
          obtain rfl : k = n := by omega
          go_wp2_with fail
          go_ret
          refine ⟨A1, c1, ms, rfl, HNE.out, ?_, HO.out, HM.out, HB.out⟩
          rw [← HALL.out]
          exact HMS.out
end Go.Proofs.Ytokdleanpkkdpaa
