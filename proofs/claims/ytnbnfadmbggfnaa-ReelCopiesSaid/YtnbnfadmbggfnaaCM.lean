/- Contract of Used at a valid press; conditions: no more copies than it prints. -/
import Derived.Test.YtnbnfadmbggfnaaQR
set_option linter.unusedSimpArgs false
set_option linter.unusedVariables false
namespace Go.Rl
open Go.Fh
/-- what must still be taken of a web behind its first reels -/
def lfJ (v : WebD) (L0 : Int) : Nat → Int
  | 0 => L0
  | j + 1 => lfJ v L0 j - min (lfJ v L0 j) (((v.reels[j]?).map giv).getD 0)
def usE (r : ReelD) (u : Int) : Int × Int × Int := (r.id, u, r.len - u)
def reelZ : ReelD := ⟨0, 0, 0, 0⟩
/-- what is used of the first reels of a web -/
def usW (v : WebD) (L0 : Int) : Nat → List (Int × Int × Int)
  | 0 => []
  | j + 1 => usW v L0 j ++ [usE (v.reels.getD j reelZ) (min (lfJ v L0 j) (((v.reels[j]?).map giv).getD 0))]
/-- what a web must give for n copies -/
def ndW (p : PrsD) (n : Int) (v : WebD) : Int := if 0 < n then v.off + n * p.cut else 0
def useK (p : PrsD) (n : Int) : Nat → List (Int × Int × Int)
  | 0 => []
  | k + 1 => useK p n k ++ (match p.webs[k]? with | some v => usW v (ndW p n v) v.reels.length | none => [])
theorem useK_s {p : PrsD} (n : Int) {k : Nat} (h : k < p.webs.length) : useK p n (k + 1) = useK p n k ++ usW p.webs[k] (ndW p n p.webs[k]) p.webs[k].reels.length := by
  show useK p n k ++ (match p.webs[k]? with | some v => usW v (ndW p n v) v.reels.length | none => []) = _
  rw [List.getElem?_eq_getElem h]
theorem usW_len (v : WebD) (L0 : Int) (j : Nat) : (usW v L0 j).length = j := by
  induction j with
  | zero => rfl
  | succ j ih => simp [usW, ih]
theorem lfJ_s {v : WebD} {L0 : Int} {j : Nat} (h : j < v.reels.length) : lfJ v L0 (j + 1) = lfJ v L0 j - min (lfJ v L0 j) (giv v.reels[j]) := by simp [lfJ, h]
theorem usW_s {v : WebD} {L0 : Int} {j : Nat} (h : j < v.reels.length) : usW v L0 (j + 1) = usW v L0 j ++ [usE v.reels[j] (min (lfJ v L0 j) (giv v.reels[j]))] := by
  simp [usW, h]
theorem lfJ_eq {v : WebD} {L0 : Int} (h : ∀ r ∈ v.reels, ReelOk r) (h0 : 0 ≤ L0) : ∀ j, j ≤ v.reels.length → lfJ v L0 j = max (L0 - gsum v.reels j) 0 := by
  intro j
  induction j with
  | zero => intro _; simp [lfJ, gsum]; omega
  | succ j ih =>
    intro hj
    have h1 := ih (by omega)
    have h2 := h v.reels[j] (List.getElem_mem _)
    have hc1 := h2.c1
    rw [lfJ_s (by omega), gsum_s (by omega), h1]
    unfold giv
    omega
theorem lfJ_bd {v : WebD} {L0 : Int} (h : ∀ r ∈ v.reels, ReelOk r) (h0 : 0 ≤ L0) {j : Nat} (hj : j ≤ v.reels.length) : 0 ≤ lfJ v L0 j ∧ lfJ v L0 j ≤ L0 := by
  rw [lfJ_eq h h0 j hj]
  have := (gsum_bd h j).1
  omega
theorem ndW_bd {p : PrsD} {n : Int} {v : WebD} (hc : 300 ≤ p.cut) (hc2 : p.cut ≤ 1500) (hn : 0 ≤ n) (hn2 : n ≤ 1000000) (ho : 0 ≤ v.off) (ho2 : v.off ≤ 200000) : 0 ≤ ndW p n v ∧ ndW p n v ≤ 1500200000 ∧ (0 ≤ n * p.cut ∧ n * p.cut ≤ 1500000000) := by
  have h2 : n * p.cut ≤ 1000000 * p.cut := Int.mul_le_mul_of_nonneg_right hn2 (by omega)
  have h3 : 0 ≤ n * p.cut := Int.mul_nonneg hn (by omega)
  unfold ndW
  split <;> omega
theorem useK_len {p : PrsD} (n : Int) (h : ∀ v ∈ p.webs, v.reels.length ≤ 20) : ∀ k, k ≤ p.webs.length → (useK p n k).length ≤ 20 * k := by
  intro k
  induction k with
  | zero => intro _; simp [useK]
  | succ k ih =>
    intro hk
    rw [useK_s n (by omega), List.length_append, usW_len]
    have := ih (by omega)
    have := h p.webs[k] (List.getElem_mem _)
    omega
end Go.Rl
namespace Go.Proofs.Ytnbnfadmbggfnaa
open Go.RowKit Go.Fh Go.Rl
theorem infoUse : (Try.prog.info? 56).map (fun i => (i.zero, i.size, i.bytes)) = some (some (.agg #[.int .i64 0, .int .i64 0, .int .i64 0]), 3, 24) := by kernel_rfl
set_option maxRecDepth 20000 in
set_option maxHeartbeats 8000000 in
theorem used22_ok (p : PrsD) (A : Option Addr) (c m : Nat) (ms : List WebM) (w : World) (hT : PrsAt w w.heap.size p A ms) (hm : m = ms.length) (hp : errP p = 0) (n : Int) (h0 : 0 ≤ n) (h1 : n ≤ rchP p) (U : List (Int × Int × Int)) (hU : U = useK p n p.webs.length) :
    Calls Try.prog 22 #[.agg #[.int .i64 p.cut, .int .i64 p.margin, .slice A m c], .int .i64 n] w fun e w' => ∃ A' c', e = .returned (.tuple #[.slice A' U.length c', .int .i64 0]) ∧ Hid (Sl enc3 3 w' w'.heap.size A' U) ∧ Hid (Below w.heap.size w w') := by
  obtain ⟨w1, gT, HW1, HGT, HB1, HTB⟩ := prs_box p A c m ms w hT
  obtain ⟨hT1, r0, r1, r2⟩ := HTB.out w1 (Below.refl _ _)
  have hml : m = p.webs.length := by rw [hm, hT.len]
  have hpo := prs_ok hp
  have hm6 := hpo.n1
  have hrb := rch_bd hp
  have hA := ask_any p A c m ms w1 hT1 hm (by omega) n 9223372036854775807 0 (ask_ok hp h0 h1 (by omega)).symm
  have HA := Lib.hid hA
  have HM := Lib.hid hm
  have HML := Lib.hid hml
  have HPO := Lib.hid hpo
  have HUE := Lib.hid hU
  have hn6 : n ≤ 1000000 := by omega
  have hc0 := hpo.c0
  have hc1 := hpo.c1
  rw [← hml] at hm6
  obtain ⟨i0, hi, hz0, hz1, hz2⟩ := info_parts infoUse
  have HI := Lib.hid hi
  have tn : ∀ b, b = decide (0 < n) → (decide (n > 0) = b ∧ decide (0 < n) = b) := fun b hb => by rw [hb]; exact ⟨rfl, rfl⟩
  obtain ⟨bn, hbn⟩ : ∃ b, b = decide (0 < n) := ⟨_, rfl⟩
  obtain ⟨tn1, tn2⟩ := tn bn hbn
  have HBN' := Lib.hid (show ∀ v, ndW p n v = if bn = true then v.off + n * p.cut else 0 from fun v => by unfold ndW; rw [hbn]; simp)
  clear hi tn hbn hA hT hT1 hm hml hpo hp h1 hrb hU
  go_enter Try.func22, Try.ntmps22
  go_upto_region 1 with fail
  rw [← HW1.out, ← HGT.out]
  go_wp2_with (go_at_call 41; with_reducible refine HA.out.mono ?_; rintro e w2 ⟨rfl, HB2⟩; clear r0 r1 r2; obtain ⟨-, r0, r1, r2⟩ := HTB.out w2 HB2.out)
  clear r0 r1 r2
  go_loopw [7, 23] (fun u7 u wr => ∃ (k N : Nat) (A7 : Option Addr) (c7 : Nat), k ≤ m ∧ u = .int .i64 (k : Int) ∧ u7 = .slice A7 N c7 ∧ N ≤ 20 * k ∧ Hid (N = (useK p n k).length ∧ wr.ownsRow w1.heap.size 56 3 (.slice A7 N c7) N ((useK p n k).flatMap enc3)) ∧ Hid (Below w1.heap.size w1 wr)) (fun _ u _ => m - (intOf u).toNat)
  case atStart => exact ⟨0, 0, none, 0, Nat.zero_le _, rfl, rfl, Nat.zero_le _, Lib.hid ⟨rfl, World.ownsRow_nil _ _ _ _⟩, HB2⟩
  case round =>
    obtain ⟨k, N, A7, c7, hk, rfl, rfl, hN20, HR, HBL⟩ := hrel
    by_cases hlt : k < m
    · have hkm : k < ms.length := by have := HM.out; omega
      have hkp : k < p.webs.length := by have := HML.out; omega
      have hT2 := (HTB.out wr HBL.out).1
      obtain ⟨b, off, hba, hbb, c0, c1, c2, c3⟩ := web_at hT2.cW hkm
      have hwe : ms[k].1 = p.webs[k] := by
        have h1 : (ms.map (·.1))[k]'(by simpa using hkm) = p.webs[k] := List.getElem_of_eq hT2.eq _
        rw [List.getElem_map] at h1; exact h1
      have hwo := HPO.out.w p.webs[k] (List.getElem_mem hkp)
      have hus := useK_s n hkp
      have HCR := Lib.hid (fun W (hb : Below w1.heap.size w1 W) => (HTB.out W hb).1.cR k hkm)
      rw [← hwe] at hwo hus
      obtain ⟨⟨v, vA, vc⟩, hv⟩ : ∃ v, v = ms[k] := ⟨_, rfl⟩
      rw [← hv] at c0 c1 c2 c3 hwo hus HCR
      dsimp only at c0 c1 c2 c3 hwo hus HCR
      have ho0 := hwo.o0
      have ho1 := hwo.o1
      have hv20 := hwo.n
      have hnd := ndW_bd (p := p) (n := n) (v := v) hc0 hc1 h0 hn6 ho0 ho1
      obtain ⟨L0, hL0⟩ : ∃ x, x = ndW p n v := ⟨_, rfl⟩
      have hL0e := HBN'.out v
      rw [← hL0] at hus hnd hL0e
      obtain ⟨nv, hnv⟩ : ∃ x, x = v.reels.length := ⟨_, rfl⟩
      have HNV := Lib.hid hnv
      rw [← hnv] at c0 hv20 hus
      have HUS := Lib.hid hus
      have HRO := Lib.hid hwo.r
      have HLB := Lib.hid (show ∀ j, j ≤ v.reels.length → 0 ≤ lfJ v L0 j ∧ lfJ v L0 j ≤ L0 from fun j hj => lfJ_bd hwo.r (by omega) hj)
      have s1 : IntKind.i64.wrap (n * p.cut) = n * p.cut := by rw [IntKind.wrap_i64]; omega
      have s2 : IntKind.i64.wrap (v.off + n * p.cut) = v.off + n * p.cut := by rw [IntKind.wrap_i64]; omega
      obtain ⟨g9, hg9⟩ : ∃ g, g = wr.heap.size := ⟨_, rfl⟩
      obtain ⟨w5, hw5⟩ : ∃ W, W = wr.alloc (.cells #[.slice vA nv vc, .int .i64 v.off, .int .i64 v.bef, .int .i64 v.aft] 41) := ⟨_, rfl⟩
      have k9 : Blk w5 g9 41 #[.slice vA nv vc, .int .i64 v.off, .int .i64 v.bef, .int .i64 v.aft] := by rw [hw5, hg9]; exact Blk.new _ _ _
      have HB5 := Lib.hid (show Below w1.heap.size w1 w5 from by rw [hw5]; exact balR HBL.out _)
      have HO5 := Lib.hid (show w5.ownsRow w1.heap.size 56 3 (.slice A7 N c7) N ((useK p n k).flatMap enc3) from by rw [hw5]; exact HR.out.2.alloc _)
      have HN5 := Lib.hid HR.out.1
      have y0 := k9.cell 0
      have y1 := k9.cell 1
      simp at y0 y1
      obtain ⟨-, r0, r1, r2⟩ := HTB.out w5 HB5.out
      have HW5 := Lib.hid hw5
      have HG9 := Lib.hid hg9
      have i0' : (0 : Int) ≤ (k : Int) := by omega
      have i1' : (k : Int) < (m : Int) := by omega
      clear hT2 hwe hwo hus hv hL0 hnv hg9 hw5 k9
      subst hba
      go_upto_region 8 with fail
      rw [← HW5.out, ← HG9.out]
      clear c0 c1 c2 c3
      cases bn
      · have hL0' : L0 = 0 := by simpa using hL0e
        clear hL0e
        go_wp2_with fail
        subst hL0'
        clear r0 r1 r2 y0 y1
        go_loopw [7, 10, 39] (fun u7 u10 u wq => ∃ (j N2 : Nat) (A7 : Option Addr) (c7 : Nat), j ≤ nv ∧ u = .int .i64 (j : Int) ∧ u10 = .int .i64 (lfJ v 0 j) ∧ u7 = .slice A7 N2 c7 ∧ N2 = N + j ∧ Hid (wq.ownsRow w1.heap.size 56 3 (.slice A7 N2 c7) N2 ((useK p n k ++ usW v 0 j).flatMap enc3)) ∧ Hid (Below w1.heap.size w1 wq)) (fun _ _ u _ => nv - (intOf u).toNat)
        case atStart => exact ⟨0, N, A7, c7, Nat.zero_le _, rfl, rfl, rfl, rfl, Lib.hid (by show w5.ownsRow _ _ _ _ _ ((useK p n k ++ []).flatMap enc3); rw [List.append_nil]; exact HO5.out), HB5⟩
        case round =>
          obtain ⟨j, N2, A7, c7, hj, rfl, rfl, rfl, hN2, HO, HBQ⟩ := hrel
          have HN2 := Lib.hid hN2
          have hN2b : N2 ≤ 20 * k + j := by omega
          clear hN2
          by_cases hltj : j < nv
          · have hjl : j < v.reels.length := by have := HNV.out; omega
            obtain ⟨b, off, hba, hbb, c0, c1, c2, c3⟩ := reel_at (HCR.out _ HBQ.out) hjl
            have hro := HRO.out _ (List.getElem_mem hjl)
            have hlb := HLB.out j (by omega)
            have hls := lfJ_s (L0 := 0) hjl
            have hus := usW_s (L0 := 0) hjl
            obtain ⟨r, hr⟩ : ∃ r, r = v.reels[j] := ⟨_, rfl⟩
            rw [← hr] at c0 c1 c2 c3 hro hls hus
            obtain ⟨lf, hlf⟩ : ∃ x, x = lfJ v 0 j := ⟨_, rfl⟩
            rw [← hlf] at hlb hls hus ⊢
            obtain ⟨gv, hgv⟩ : ∃ x, x = giv r := ⟨_, rfl⟩
            have hgvb : 0 ≤ gv ∧ gv ≤ r.len ∧ r.len ≤ 20000000 := by have := hro.c0; have := hro.c1; have := hro.l1; rw [hgv]; unfold giv; omega
            have G51 := Lib.hid (fun W => gives_any r W hro)
            rw [← hgv] at G51 hls hus
            have HLS := Lib.hid hls
            have HUW := Lib.hid hus
            have t1 : IntKind.i64.wrap (lf - min lf gv) = lf - min lf gv := by rw [IntKind.wrap_i64]; omega
            have t2 : IntKind.i64.wrap (r.len - min lf gv) = r.len - min lf gv := by rw [IntKind.wrap_i64]; omega
            have j0 : (0 : Int) ≤ (j : Int) := by omega
            have j1 : (j : Int) < (nv : Int) := by omega
            obtain ⟨g12, hg12⟩ : ∃ g, g = wr.heap.size := ⟨_, rfl⟩
            obtain ⟨w7, hw7⟩ : ∃ W, W = wr.alloc (.cells #[.int .i64 r.id, .int .i64 r.width, .int .i64 r.len, .int .i64 r.core] 54) := ⟨_, rfl⟩
            have k12 : Blk w7 g12 54 #[.int .i64 r.id, .int .i64 r.width, .int .i64 r.len, .int .i64 r.core] := by rw [hw7, hg12]; exact Blk.new _ _ _
            have HB7 := Lib.hid (show Below w1.heap.size w1 w7 from by rw [hw7]; exact balR HBQ.out _)
            have HO7 := Lib.hid (show w7.ownsRow w1.heap.size 56 3 (.slice A7 N2 c7) N2 ((useK p n k ++ usW v 0 j).flatMap enc3) from by rw [hw7]; exact HO.out.alloc _)
            have HZ := Lib.hid (show ∀ W, Below w7.heap.size w7 W → W.cell? ⟨g12, 0, none⟩ = some (.int .i64 r.id) ∧ W.cell? ⟨g12, 1, none⟩ = some (.int .i64 r.width) ∧ W.cell? ⟨g12, 2, none⟩ = some (.int .i64 r.len) ∧ W.cell? ⟨g12, 3, none⟩ = some (.int .i64 r.core) from fun W hb => by
              have k := k12.below hb k12.lt
              have a0 := k.cell 0
              have a1 := k.cell 1
              have a2 := k.cell 2
              have a3 := k.cell 3
              simp at a0 a1 a2 a3
              exact ⟨a0, a1, a2, a3⟩)
            have HW7 := Lib.hid hw7
            have HG12 := Lib.hid hg12
            have hm1 : N2 + 1 ≤ maxLen := by simp only [maxLen]; omega
            have hm2 : (N2 + 1) * 24 ≤ 140737488355328 := by omega
            clear hr hlf hgv hls hus hg12 hw7 k12 hro
            subst hba
            go_upto_region 14 with fail
            rw [← HW7.out, ← HG12.out]
            clear c0 c1 c2 c3
            obtain ⟨z0, z1, z2, z3⟩ := HZ.out _ (Below.refl _ _)
            go_upto_region 16 with (go_at_call 51; with_reducible refine (G51.out _).mono ?_; rintro e w8 ⟨rfl, HB8⟩; clear z0 z1 z2 z3; obtain ⟨z0, z1, z2, z3⟩ := HZ.out _ HB8.out; have HB78 := Lib.hid (bstep HB7.out HB8.out); have HO8 := Lib.hid (own_belowV HO7.out HB8.out); clear HB8)
            have HM3 := Lib.hid (show w1.heap.size ≤ (w8.alloc (.cells #[.int .i64 r.id, .int .i64 (min lf gv), .int .i64 (r.len - min lf gv)] 56)).heap.size from by have := HB78.out.size; simp; omega)
            go_wp2_with (at_builtin; refine wpList_append_own _ rfl (.tmp 50) (.tmp 59) 50 rfl w1.heap.size 56 i0 (.agg #[.int .i64 0, .int .i64 0, .int .i64 0]) 3 24 Try.underlying50 HI.out hz0 hz1 hz2 rfl (by decide) (.slice A7 N2 c7) N2 ((useK p n k ++ usW v 0 j).flatMap enc3) rfl (HO8.out.alloc _) ⟨w8.heap.size, 0, none⟩ 1 1 [.int .i64 r.id, .int .i64 (min lf gv), .int .i64 (r.len - min lf gv)] rfl rfl (news_of1 w8 56 #[.int .i64 r.id, .int .i64 (min lf gv), .int .i64 (r.len - min lf gv)]) (by intro u hu; simp at hu; rcases hu with rfl | rfl | rfl <;> rfl) hm1 hm2 HM3.out ?_; intro v9 w9 hown9 hg9 _; obtain ⟨g9', c9, hv9⟩ := ownsRow_succ hown9; subst hv9; have H9 := Lib.hid hown9; have HG9' := Lib.hid hg9; clear hown9 hg9)
            go_roundw
            case rel =>
              refine ⟨j + 1, N2 + 1, some ⟨g9', 0, none⟩, c9, by omega, by go_num, by rw [HLS.out], rfl, by have := HN2.out; omega, Lib.hid ?_, Lib.hid ?_⟩
              · rw [HUW.out, ← List.append_assoc, List.flatMap_append]
                exact H9.out
              · exact (balR HB78.out _).grown HG9'.out (balR HB78.out _).size (fun j hj => (own_at HO8.out hj).2)
            case measure => simp [intOf]; omega
          · obtain rfl : j = nv := by omega
            go_wp2_with fail
            go_roundw
            case rel =>
              refine ⟨k + 1, N2, A7, c7, by omega, by go_num, rfl, by have := HN2.out; omega, Lib.hid ⟨?_, ?_⟩, HBQ⟩
              · rw [HUS.out, List.length_append, usW_len, ← HN5.out]; exact HN2.out
              · rw [HUS.out]; exact HO.out
            case measure => simp [intOf]; omega
      · have hL0' : L0 = v.off + n * p.cut := by simpa using hL0e
        clear hL0e
        go_wp2_with fail
        rw [← hL0']
        have HL0' := Lib.hid hL0'
        clear hL0'
        clear r0 r1 r2 y0 y1
        go_loopw [7, 10, 39] (fun u7 u10 u wq => ∃ (j N2 : Nat) (A7 : Option Addr) (c7 : Nat), j ≤ nv ∧ u = .int .i64 (j : Int) ∧ u10 = .int .i64 (lfJ v L0 j) ∧ u7 = .slice A7 N2 c7 ∧ N2 = N + j ∧ Hid (wq.ownsRow w1.heap.size 56 3 (.slice A7 N2 c7) N2 ((useK p n k ++ usW v L0 j).flatMap enc3)) ∧ Hid (Below w1.heap.size w1 wq)) (fun _ _ u _ => nv - (intOf u).toNat)
        case atStart => exact ⟨0, N, A7, c7, Nat.zero_le _, rfl, rfl, rfl, rfl, Lib.hid (by show w5.ownsRow _ _ _ _ _ ((useK p n k ++ []).flatMap enc3); rw [List.append_nil]; exact HO5.out), HB5⟩
        case round =>
          obtain ⟨j, N2, A7, c7, hj, rfl, rfl, rfl, hN2, HO, HBQ⟩ := hrel
          have HN2 := Lib.hid hN2
          have hN2b : N2 ≤ 20 * k + j := by omega
          clear hN2
          by_cases hltj : j < nv
          · have hjl : j < v.reels.length := by have := HNV.out; omega
            obtain ⟨b, off, hba, hbb, c0, c1, c2, c3⟩ := reel_at (HCR.out _ HBQ.out) hjl
            have hro := HRO.out _ (List.getElem_mem hjl)
            have hlb := HLB.out j (by omega)
            have hls := lfJ_s (L0 := L0) hjl
            have hus := usW_s (L0 := L0) hjl
            obtain ⟨r, hr⟩ : ∃ r, r = v.reels[j] := ⟨_, rfl⟩
            rw [← hr] at c0 c1 c2 c3 hro hls hus
            obtain ⟨lf, hlf⟩ : ∃ x, x = lfJ v L0 j := ⟨_, rfl⟩
            rw [← hlf] at hlb hls hus ⊢
            obtain ⟨gv, hgv⟩ : ∃ x, x = giv r := ⟨_, rfl⟩
            have hgvb : 0 ≤ gv ∧ gv ≤ r.len ∧ r.len ≤ 20000000 := by have := hro.c0; have := hro.c1; have := hro.l1; rw [hgv]; unfold giv; omega
            have G51 := Lib.hid (fun W => gives_any r W hro)
            rw [← hgv] at G51 hls hus
            have HLS := Lib.hid hls
            have HUW := Lib.hid hus
            have t1 : IntKind.i64.wrap (lf - min lf gv) = lf - min lf gv := by rw [IntKind.wrap_i64]; omega
            have t2 : IntKind.i64.wrap (r.len - min lf gv) = r.len - min lf gv := by rw [IntKind.wrap_i64]; omega
            have j0 : (0 : Int) ≤ (j : Int) := by omega
            have j1 : (j : Int) < (nv : Int) := by omega
            obtain ⟨g12, hg12⟩ : ∃ g, g = wr.heap.size := ⟨_, rfl⟩
            obtain ⟨w7, hw7⟩ : ∃ W, W = wr.alloc (.cells #[.int .i64 r.id, .int .i64 r.width, .int .i64 r.len, .int .i64 r.core] 54) := ⟨_, rfl⟩
            have k12 : Blk w7 g12 54 #[.int .i64 r.id, .int .i64 r.width, .int .i64 r.len, .int .i64 r.core] := by rw [hw7, hg12]; exact Blk.new _ _ _
            have HB7 := Lib.hid (show Below w1.heap.size w1 w7 from by rw [hw7]; exact balR HBQ.out _)
            have HO7 := Lib.hid (show w7.ownsRow w1.heap.size 56 3 (.slice A7 N2 c7) N2 ((useK p n k ++ usW v L0 j).flatMap enc3) from by rw [hw7]; exact HO.out.alloc _)
            have HZ := Lib.hid (show ∀ W, Below w7.heap.size w7 W → W.cell? ⟨g12, 0, none⟩ = some (.int .i64 r.id) ∧ W.cell? ⟨g12, 1, none⟩ = some (.int .i64 r.width) ∧ W.cell? ⟨g12, 2, none⟩ = some (.int .i64 r.len) ∧ W.cell? ⟨g12, 3, none⟩ = some (.int .i64 r.core) from fun W hb => by
              have k := k12.below hb k12.lt
              have a0 := k.cell 0
              have a1 := k.cell 1
              have a2 := k.cell 2
              have a3 := k.cell 3
              simp at a0 a1 a2 a3
              exact ⟨a0, a1, a2, a3⟩)
            have HW7 := Lib.hid hw7
            have HG12 := Lib.hid hg12
            have hm1 : N2 + 1 ≤ maxLen := by simp only [maxLen]; omega
            have hm2 : (N2 + 1) * 24 ≤ 140737488355328 := by omega
            clear hr hlf hgv hls hus hg12 hw7 k12 hro
            subst hba
            go_upto_region 14 with fail
            rw [← HW7.out, ← HG12.out]
            clear c0 c1 c2 c3
            obtain ⟨z0, z1, z2, z3⟩ := HZ.out _ (Below.refl _ _)
            go_upto_region 16 with (go_at_call 51; with_reducible refine (G51.out _).mono ?_; rintro e w8 ⟨rfl, HB8⟩; clear z0 z1 z2 z3; obtain ⟨z0, z1, z2, z3⟩ := HZ.out _ HB8.out; have HB78 := Lib.hid (bstep HB7.out HB8.out); have HO8 := Lib.hid (own_belowV HO7.out HB8.out); clear HB8)
            have HM3 := Lib.hid (show w1.heap.size ≤ (w8.alloc (.cells #[.int .i64 r.id, .int .i64 (min lf gv), .int .i64 (r.len - min lf gv)] 56)).heap.size from by have := HB78.out.size; simp; omega)
            go_wp2_with (at_builtin; refine wpList_append_own _ rfl (.tmp 50) (.tmp 59) 50 rfl w1.heap.size 56 i0 (.agg #[.int .i64 0, .int .i64 0, .int .i64 0]) 3 24 Try.underlying50 HI.out hz0 hz1 hz2 rfl (by decide) (.slice A7 N2 c7) N2 ((useK p n k ++ usW v L0 j).flatMap enc3) rfl (HO8.out.alloc _) ⟨w8.heap.size, 0, none⟩ 1 1 [.int .i64 r.id, .int .i64 (min lf gv), .int .i64 (r.len - min lf gv)] rfl rfl (news_of1 w8 56 #[.int .i64 r.id, .int .i64 (min lf gv), .int .i64 (r.len - min lf gv)]) (by intro u hu; simp at hu; rcases hu with rfl | rfl | rfl <;> rfl) hm1 hm2 HM3.out ?_; intro v9 w9 hown9 hg9 _; obtain ⟨g9', c9, hv9⟩ := ownsRow_succ hown9; subst hv9; have H9 := Lib.hid hown9; have HG9' := Lib.hid hg9; clear hown9 hg9)
            go_roundw
            case rel =>
              refine ⟨j + 1, N2 + 1, some ⟨g9', 0, none⟩, c9, by omega, by go_num, by rw [HLS.out], rfl, by have := HN2.out; omega, Lib.hid ?_, Lib.hid ?_⟩
              · rw [HUW.out, ← List.append_assoc, List.flatMap_append]
                exact H9.out
              · exact (balR HB78.out _).grown HG9'.out (balR HB78.out _).size (fun j hj => (own_at HO8.out hj).2)
            case measure => simp [intOf]; omega
          · obtain rfl : j = nv := by omega
            go_wp2_with fail
            go_roundw
            case rel =>
              refine ⟨k + 1, N2, A7, c7, by omega, by go_num, rfl, by have := HN2.out; omega, Lib.hid ⟨?_, ?_⟩, HBQ⟩
              · rw [HUS.out, List.length_append, usW_len, ← HN5.out]; exact HN2.out
              · rw [HUS.out]; exact HO.out
            case measure => simp [intOf]; omega
    · obtain rfl : k = m := by omega
      obtain ⟨hn1, ho1⟩ := HR.out
      have HSL := Lib.hid (show Sl enc3 3 wr wr.heap.size A7 U from by
        rw [HUE.out, ← HML.out]
        rw [hn1] at ho1
        exact Sl.of_own (fun _ => rfl) ho1)
      have HNU := Lib.hid (show N = U.length from by rw [hn1, HUE.out, ← HML.out])
      clear hn1 ho1
      go_wp2_with fail
      go_ret2
      refine ⟨A7, c7, ?_, HSL, Lib.hid (HB1.out.trans (HBL.out.mono HB1.out.size))⟩
      rw [← HNU.out]; rfl
end Go.Proofs.Ytnbnfadmbggfnaa
