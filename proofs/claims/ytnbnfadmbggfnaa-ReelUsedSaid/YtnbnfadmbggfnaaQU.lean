/- The walk of ReelUsed; conditions: bytes and small numbers. -/
import Derived.Test.YtnbnfadmbggfnaaCM
set_option linter.unusedSimpArgs false
set_option linter.unusedVariables false
namespace Go.Rl
open Go.Fh
theorem rch_web {p : PrsD} : ∀ k, k ≤ p.webs.length → ∀ i (h : i < k) (h2 : i < p.webs.length), rchK p k ≤ webN p.cut p.webs[i] := by
  intro k
  induction k with
  | zero => intro _ i h; omega
  | succ k ih =>
    intro hk i h h2
    rw [rchK_s (by omega)]
    by_cases e : i = k
    · subst e; omega
    · have := ih (by omega) i (by omega) h2; omega
/-- a web has what its copies take -/
theorem nd_tot {p : PrsD} (hp : errP p = 0) {n : Int} (h0 : 0 ≤ n) (h1 : n ≤ rchP p) {i : Nat} (hi : i < p.webs.length) : ndW p n p.webs[i] ≤ totW p.webs[i] := by
  have hpo := prs_ok hp
  have hw := hpo.w _ (List.getElem_mem hi)
  have hr := rch_web (p := p) p.webs.length (Nat.le_refl _) i hi hi
  have ht := totW_bd hw
  have hc := hpo.c0
  unfold ndW
  split
  · rename_i hn
    have h2 : n ≤ max (totW p.webs[i] - p.webs[i].off) 0 / p.cut := by unfold rchP at h1; unfold webN at hr; omega
    rw [Int.le_ediv_iff_mul_le (by omega)] at h2
    have h3 : 1 * p.cut ≤ n * p.cut := Int.mul_le_mul_of_nonneg_right (by omega) (by omega)
    omega
  · omega
theorem nd_end {p : PrsD} (hp : errP p = 0) {n : Int} (h0 : 0 ≤ n) (h1 : n ≤ rchP p) {i : Nat} (hi : i < p.webs.length) : lfJ p.webs[i] (ndW p n p.webs[i]) p.webs[i].reels.length = 0 := by
  have hpo := prs_ok hp
  have hw := hpo.w _ (List.getElem_mem hi)
  have hb := rch_bd hp
  have h2 := nd_tot hp h0 h1 hi
  have h3 := ndW_bd (p := p) (n := n) (v := p.webs[i]) hpo.c0 hpo.c1 h0 (by omega) hw.o0 hw.o1
  rw [lfJ_eq hw.r h3.1 _ (Nat.le_refl _)]
  unfold totW at h2
  omega
theorem usW_get {v : WebD} {L0 : Int} : ∀ (m : Nat), m ≤ v.reels.length → ∀ j (h : j < m) (h2 : j < v.reels.length), (usW v L0 m)[j]? = some (usE v.reels[j] (min (lfJ v L0 j) (giv v.reels[j]))) := by
  intro m
  induction m with
  | zero => intro _ j h; omega
  | succ m ih =>
    intro hm j h h2
    rw [usW_s (by omega)]
    by_cases e : j < m
    · rw [List.getElem?_append_left (by rw [usW_len]; exact e)]
      exact ih (by omega) j e h2
    · have : j = m := by omega
      subst this
      rw [List.getElem?_append_right (by rw [usW_len]; exact Nat.le_refl _), usW_len]
      simp
theorem useK_pre {p : PrsD} {n : Int} : ∀ m k, k ≤ m → ∃ R, useK p n m = useK p n k ++ R := by
  intro m
  induction m with
  | zero => intro k hk; obtain rfl : k = 0 := by omega
            exact ⟨[], by simp⟩
  | succ m ih =>
    intro k hk
    by_cases e : k = m + 1
    · subst e; exact ⟨[], by simp⟩
    · obtain ⟨R, hR⟩ := ih k (by omega)
      refine ⟨R ++ (match p.webs[m]? with | some v => usW v (ndW p n v) v.reels.length | none => []), ?_⟩
      show useK p n m ++ _ = _
      rw [hR, List.append_assoc]
      rfl
theorem useK_get {p : PrsD} {n : Int} {k j : Nat} (hk : k < p.webs.length) (hj : j < p.webs[k].reels.length) : (useK p n p.webs.length)[(useK p n k).length + j]? = some (usE p.webs[k].reels[j] (min (lfJ p.webs[k] (ndW p n p.webs[k]) j) (giv p.webs[k].reels[j]))) := by
  obtain ⟨R, hR⟩ := useK_pre (p := p) (n := n) p.webs.length (k + 1) (by omega)
  rw [hR, useK_s n hk, List.append_assoc, List.getElem?_append_right (by omega), Nat.add_sub_cancel_left, List.getElem?_append_left (by rw [usW_len]; exact hj)]
  exact usW_get _ (Nat.le_refl _) j hj hj
end Go.Rl
namespace Go.Proofs.Ytnbnfadmbggfnaa
open Go.RowKit Go.Fh Go.Rl
set_option maxRecDepth 20000 in
set_option maxHeartbeats 8000000 in
theorem reelUsed_walk (haw : ∀ w, Calls Try.prog 17 #[] w fun e w' => e = .returned (.bool true) ∧ Below w.heap.size w w') (A : Option Addr) (c : Nat) (l : List Nat) (cop : Int) (w : World) (hl : l.length ≤ 9223372036854775807) (hbd : ∀ x ∈ l, x ≤ 255) (hA : Sl encBn 1 w w.heap.size A l)
    (hc0 : 0 ≤ cop) (hc1 : cop ≤ 65535) :
    Calls Try.prog 6 #[.slice A l.length c, .int .u16 cop] w fun e w' => e = .returned (.bool true) ∧ Below w.heap.size w w' := by
  have HMD := Lib.hid (made_any A c l w hl hbd hA)
  have he := made_err l
  obtain ⟨p, hp⟩ : ∃ p, p = madeP l := ⟨_, rfl⟩
  rw [← hp] at HMD he
  clear hp hA hl hbd
  have hb := rch_bd he
  obtain ⟨R, hR⟩ : ∃ R, R = rchP p := ⟨_, rfl⟩
  obtain ⟨n, hn⟩ : ∃ n, n = cop.tmod (R + 1) := ⟨_, rfl⟩
  rw [← hR] at hb
  have hnb : 0 ≤ n ∧ n ≤ R := by
    rw [hn, Int.tmod_eq_emod_of_nonneg hc0]
    have h1 := Int.emod_nonneg cop (b := R + 1) (by omega)
    have h2 := Int.emod_lt_of_pos cop (b := R + 1) (by omega)
    omega
  have hn0 := hnb.1
  have hn6 : n ≤ 1000000 := by omega
  obtain ⟨U, hU⟩ : ∃ S, S = useK p n p.webs.length := ⟨_, rfl⟩
  have hpo := prs_ok he
  have hw1 := hpo.n1
  have hc0' := hpo.c0
  have hc1' := hpo.c1
  have hU1 := useK_len (p := p) n (fun v hv => (hpo.w v hv).n) p.webs.length (Nat.le_refl _)
  rw [← hU] at hU1
  have HE := Lib.hid he
  have HR := Lib.hid hR
  have HU := Lib.hid hU
  have HPO := Lib.hid hpo
  have HNR := Lib.hid (show n ≤ rchP p by omega)
  have e6 : IntKind.i64.wrap cop = cop := by rw [IntKind.wrap_i64]; omega
  have e7 : IntKind.i64.wrap (R + 1) = R + 1 := by rw [IntKind.wrap_i64]; omega
  have e8 : cop.tmod (R + 1) = n := hn.symm
  have e9 : (R + 1 == 0) = false := by simp; omega
  have e10 : ¬ (R + 1 = 0) := by omega
  clear hR hn hU he hpo
  go_enter Try.func6, Try.ntmps6
  go_upto_region 2 with (go_at_call 12; with_reducible refine HMD.out.mono ?_; rintro e w1' ⟨AW, c0, ms, rfl, hM⟩; have HMM := Lib.hid hM; clear hM)
  obtain ⟨M, hM⟩ : ∃ M, M = ms.length := ⟨_, rfl⟩
  rw [← hM]
  have HM := Lib.hid hM
  obtain ⟨w2', g7, HW2, HG7, HBW, HAT, HC⟩ := mp_box 26 p w AW c0 ms w1' HMM.out.at_ M hM
  have HB1' := Lib.hid HMM.out.low
  obtain ⟨x0, x1, x2⟩ := HC.out _ (Below.refl _ _)
  have HBN := Lib.hid (Below.refl w2'.heap.size w2')
  rw [← HW2.out, ← HG7.out]
  have hMp : M = p.webs.length := by rw [hM, ← HMM.out.eq]; simp
  have HMP := Lib.hid hMp
  rw [← hMp] at hw1 hU1
  clear hM hMp
  go_upto_region 9 with first
    | (go_at_call 13; with_reducible refine (reach_c p AW c0 M ms _ (HAT.out _ HBN.out) HM.out HE.out R HR.out).mono ?_; rintro e wn ⟨rfl, HB⟩; have HBN := Lib.hid (bstep HBN.out HB.out); clear x0 x1 x2; obtain ⟨x0, x1, x2⟩ := HC.out _ HBN.out; clear HB)
    | (go_at_call 22; with_reducible refine (used22_ok p AW c0 M ms _ (HAT.out _ HBN.out) HM.out HE.out n hn0 HNR.out U HU.out).mono ?_; rintro e wn ⟨A1, c1, rfl, HSU, HB⟩; have HBN := Lib.hid (bstep HBN.out HB.out); clear x0 x1 x2; obtain ⟨x0, x1, x2⟩ := HC.out _ HBN.out; clear HB)
  go_wp2_with fail
  clear x0 x1 x2
  obtain ⟨Q, hQ⟩ : ∃ Q, Q = U.length := ⟨_, rfl⟩
  have HQ := Lib.hid hQ
  rw [← hQ] at hU1 ⊢
  clear hQ
  go_loopw [10, 42] (fun u10 u wq => ∃ k q : Nat, k ≤ M ∧ q ≤ Q ∧ u = .int .i64 (k : Int) ∧ u10 = .int .i64 (q : Int) ∧ Hid (q = (useK p n k).length) ∧ Hid (Below wn.heap.size wn wq)) (fun _ u _ => M - (intOf u).toNat)
  case atStart => exact ⟨0, 0, Nat.zero_le _, Nat.zero_le _, rfl, rfl, rfl, Below.refl _ _⟩
  case round =>
    obtain ⟨k, q, hk, hqQ, rfl, rfl, HQK, HBI⟩ := hrel
    by_cases hlt : k < M
    · have him : k < ms.length := by have := HM.out; omega
      have hip : k < p.webs.length := by have := HMP.out; omega
      have hT := HAT.out _ (bstep HBN.out HBI.out)
      obtain ⟨b, off, hba, hbb, c0', c1', c2', c3'⟩ := web_at hT.cW him
      have hwe : ms[k].1 = p.webs[k] := by
        have h1 : (ms.map (·.1))[k]'(by simpa using him) = p.webs[k] := List.getElem_of_eq hT.eq _
        rw [List.getElem_map] at h1; exact h1
      have hwo := HPO.out.w p.webs[k] (List.getElem_mem hip)
      have hus := useK_s (p := p) n hip
      have hend := nd_end HE.out hn0 HNR.out hip
      have hget := fun j (hj : j < p.webs[k].reels.length) => useK_get (p := p) (n := n) hip hj
      have HCR := Lib.hid (fun W (hb : Below w2'.heap.size w2' W) => (HAT.out W hb).cR k him)
      rw [← hwe] at hwo hus hend hget
      obtain ⟨⟨v, vA, vc⟩, hv⟩ : ∃ v, v = ms[k] := ⟨_, rfl⟩
      rw [← hv] at c0' c1' c2' c3' hwo hus hend hget HCR
      dsimp only at c0' c1' c2' c3' hwo hus hend hget HCR
      have ho0 := hwo.o0
      have ho1 := hwo.o1
      have hv20 := hwo.n
      have hnd := ndW_bd (p := p) (n := n) (v := v) hc0' hc1' hn0 hn6 ho0 ho1
      obtain ⟨L0, hL0⟩ : ∃ x, x = ndW p n v := ⟨_, rfl⟩
      rw [← hL0] at hus hend hget hnd
      have hL0e : (n = 0 → L0 = 0) ∧ (0 < n → L0 = v.off + n * p.cut) := by
        rw [hL0]; unfold ndW
        constructor
        · intro h; rw [if_neg (by omega)]
        · intro h; rw [if_pos h]
      obtain ⟨nv, hnv⟩ : ∃ x, x = v.reels.length := ⟨_, rfl⟩
      have HNV := Lib.hid hnv
      rw [← hnv] at c0' hv20 hus hend
      have HUS := Lib.hid hus
      have HEND := Lib.hid hend
      have HGET := Lib.hid (show ∀ j (hj : j < v.reels.length), U[q + j]? = some (usE v.reels[j] (min (lfJ v L0 j) (giv v.reels[j]))) from fun j hj => by rw [HU.out, HQK.out]; exact hget j hj)
      have HRO := Lib.hid hwo.r
      have HLB := Lib.hid (show ∀ j, j ≤ v.reels.length → 0 ≤ lfJ v L0 j ∧ lfJ v L0 j ≤ L0 from fun j hj => lfJ_bd hwo.r (by omega) hj)
      have s1 : IntKind.i64.wrap (n * p.cut) = n * p.cut := by rw [IntKind.wrap_i64]; omega
      have s2 : IntKind.i64.wrap (v.off + n * p.cut) = v.off + n * p.cut := by rw [IntKind.wrap_i64]; omega
      obtain ⟨g12, hg12⟩ : ∃ g, g = wr.heap.size := ⟨_, rfl⟩
      obtain ⟨w7, hw7⟩ : ∃ W, W = wr.alloc (.cells #[.slice vA nv vc, .int .i64 v.off, .int .i64 v.bef, .int .i64 v.aft] 41) := ⟨_, rfl⟩
      have k12 : Blk w7 g12 41 #[.slice vA nv vc, .int .i64 v.off, .int .i64 v.bef, .int .i64 v.aft] := by rw [hw7, hg12]; exact Blk.new _ _ _
      have hb7 : Below wr.heap.size wr w7 := by rw [hw7]; exact balR (Below.refl _ _) _
      have HY := Lib.hid (show ∀ W, Below w7.heap.size w7 W → W.cell? ⟨g12, 0, none⟩ = some (.slice vA nv vc) ∧ W.cell? ⟨g12, 1, none⟩ = some (.int .i64 v.off) from fun W hb => by
        have k := k12.below hb k12.lt
        have a0 := k.cell 0
        have a1 := k.cell 1
        simp at a0 a1
        exact ⟨a0, a1⟩)
      have HB7 := Lib.hid (bstep HBI.out hb7)
      have HB27 := Lib.hid (bstep HBN.out (bstep HBI.out hb7))
      have HW7 := Lib.hid hw7
      have HG12 := Lib.hid hg12
      have i0 : (0 : Int) ≤ (k : Int) := by omega
      have i1 : (k : Int) < (M : Int) := by omega
      have HQN : Hid (q + nv ≤ Q) := by
        have h1 := HQ.out
        obtain ⟨RR, hRR⟩ := useK_pre (p := p) (n := n) p.webs.length (k + 1) (by omega)
        have h2 := congrArg List.length hRR
        rw [List.length_append, HUS.out, List.length_append, usW_len, ← HQK.out, ← HU.out] at h2
        exact Lib.hid (by omega)
      clear hT hwe hwo hus hend hget hv hL0 hnv hg12 hw7 k12 hb7
      subst hba
      go_upto_region 13 with fail
      rw [← HW7.out, ← HG12.out]
      clear c0' c1' c2' c3'
      obtain ⟨y0, y1⟩ := HY.out _ (Below.refl _ _)
      go_wp2_with fail
      clear y0 y1
      go_loopw [10, 13, 14, 49] (fun u10 u13 u14 u wq => ∃ (j i : Nat) (al : Int) (dj : Bool), j ≤ nv ∧ i ≤ Q ∧ u = .int .i64 (j : Int) ∧ u10 = .int .i64 (i : Int) ∧ u13 = .int .i64 al ∧ u14 = .bool dj ∧ Hid (i = q + j) ∧ Hid (al = L0 - lfJ v L0 j) ∧ Hid (dj = true → lfJ v L0 j = 0) ∧ Hid (Below w7.heap.size w7 wq)) (fun _ _ _ u _ => nv - (intOf u).toNat)
      case atStart => exact ⟨0, q, 0, false, Nat.zero_le _, hqQ, rfl, rfl, rfl, rfl, Lib.hid rfl, Lib.hid (by simp [lfJ]), Lib.hid (by simp), Below.refl _ _⟩
      case round =>
        obtain ⟨j, i, al, dj, hj, hiQ, rfl, rfl, rfl, rfl, HI, HAL, HDJ, HBJ⟩ := hrel
        by_cases hltj : j < nv
        · have hjl : j < v.reels.length := by have := HNV.out; omega
          obtain ⟨b, off, hba, hbb, c0', c1', c2', c3'⟩ := reel_at (HCR.out _ (bstep HB27.out HBJ.out)) hjl
          have hro := HRO.out _ (List.getElem_mem hjl)
          have hlb := HLB.out j (by omega)
          have hls := lfJ_s (L0 := L0) hjl
          have hgt := HGET.out j hjl
          rw [← HI.out] at hgt
          obtain ⟨hiU, hgt2⟩ := List.getElem?_eq_some_iff.1 hgt
          obtain ⟨ub, uo, hua, hub, d0, d1, d2⟩ := Sl.at3 (HSU.out.below (bstep HB7.out HBJ.out)) hiU
          rw [hgt2] at d0 d1 d2
          obtain ⟨r, hr⟩ : ∃ r, r = v.reels[j] := ⟨_, rfl⟩
          rw [← hr] at c0' c1' c2' c3' hro hls d0 d1 d2
          obtain ⟨lf, hlf⟩ : ∃ x, x = lfJ v L0 j := ⟨_, rfl⟩
          have hal := HAL.out
          have hdj := HDJ.out
          rw [← hlf] at hlb hls hal hdj d1 d2
          obtain ⟨gv, hgv⟩ : ∃ x, x = giv r := ⟨_, rfl⟩
          have hgvb : 0 ≤ gv ∧ gv = r.len - r.core ∧ 0 ≤ r.core ∧ r.len ≤ 20000000 := by have := hro.c0; have := hro.c1; have := hro.l1; rw [hgv]; unfold giv; omega
          rw [← hgv] at hls d1 d2
          unfold usE at d0 d1 d2
          dsimp only at d0 d1 d2
          obtain ⟨us, hus⟩ : ∃ x, x = min lf gv := ⟨_, rfl⟩
          rw [← hus] at hls d1 d2
          have husb : 0 ≤ us ∧ us ≤ gv ∧ us ≤ lf ∧ (lf ≤ us ∨ gv ≤ us) := by omega
          have HLS := Lib.hid hls
          have t1 : decide ((i : Int) ≥ (Q : Int)) = false := by simp; have := HQ.out; omega
          have t2 : decide ((Q : Int) ≤ (i : Int)) = false := by simp; have := HQ.out; omega
          have t2' : decide (Q ≤ i) = false := by simp; have := HQ.out; omega
          have t3 : decide (us < 0) = false := by simp; omega
          have t4 : IntKind.i64.wrap (us + (r.len - us)) = r.len := by rw [IntKind.wrap_i64]; omega
          have t5 : decide (r.len - us < r.core) = false := by simp; omega
          have t6 : IntKind.i64.wrap (al + us) = al + us := by rw [IntKind.wrap_i64]; omega
          have t7 : us + (r.len - us) = r.len := by omega
          have j0 : (0 : Int) ≤ (j : Int) := by omega
          have j1 : (j : Int) < (nv : Int) := by omega
          have j2 : (0 : Int) ≤ (i : Int) := by omega
          have j3 : (i : Int) < (Q : Int) := by have := HQ.out; omega
          have HJ3 := Lib.hid j3
          obtain ⟨g16, hg16⟩ : ∃ g, g = wr.heap.size := ⟨_, rfl⟩
          obtain ⟨w9, hw9⟩ : ∃ W, W = wr.alloc (.cells #[.int .i64 r.id, .int .i64 r.width, .int .i64 r.len, .int .i64 r.core] 54) := ⟨_, rfl⟩
          have k16 : Blk w9 g16 54 #[.int .i64 r.id, .int .i64 r.width, .int .i64 r.len, .int .i64 r.core] := by rw [hw9, hg16]; exact Blk.new _ _ _
          have hb9 : Below wr.heap.size wr w9 := by rw [hw9]; exact balR (Below.refl _ _) _
          have HB9 := Lib.hid (bstep HBJ.out hb9)
          have z0 := k16.cell 0
          have z2 := k16.cell 2
          have z3 := k16.cell 3
          simp at z0 z2 z3
          have d0' := (hb9.cell (p := ⟨ub, uo + i * 3, none⟩) (Nat.lt_of_lt_of_le hub (bstep HB7.out HBJ.out).size)).trans d0
          have d1' := (hb9.cell (p := ⟨ub, uo + i * 3 + 1, none⟩) (Nat.lt_of_lt_of_le hub (bstep HB7.out HBJ.out).size)).trans d1
          have d2' := (hb9.cell (p := ⟨ub, uo + i * 3 + 2, none⟩) (Nat.lt_of_lt_of_le hub (bstep HB7.out HBJ.out).size)).trans d2
          have HW9 := Lib.hid hw9
          have HG16 := Lib.hid hg16
          have HI1 := Lib.hid (show i + 1 = q + (j + 1) by have := HI.out; omega)
          have HIQ := Lib.hid (show i + 1 ≤ Q by have := HQ.out; omega)
          have HAL1 := Lib.hid (show al + us = L0 - lfJ v L0 (j + 1) by omega)
          clear hgt hgt2 hr hlf hgv hus hw9 hg16 k16 hb9 hls hro d0 d1 d2 hal
          subst hba
          subst hua
          go_upto_region 17 with fail
          rw [← HW9.out, ← HG16.out]
          clear c0' c1' c2' c3'
          cases dj
          · by_cases hgt : r.core < r.len - us
            · have u1 : decide (r.len - us > r.core) = true := by simpa using hgt
              have u2 : decide (r.core < r.len - us) = true := by simpa using hgt
              have HD1 := Lib.hid (show true = true → lfJ v L0 (j + 1) = 0 from fun _ => by rw [HLS.out]; omega)
              clear hgt hdj
              go_quiet (fail)
              go_upto_region 19 with fail
              go_quiet (fail)
              go_wp2_with fail
              go_roundw
              case rel => exact ⟨j + 1, i + 1, al + us, true, by omega, HIQ.out, by go_num, by go_num, rfl, rfl, HI1, HAL1, HD1, Lib.hid (below_drewN HB9.out _)⟩
              case measure => simp [intOf]; omega
            · have u1 : decide (r.len - us > r.core) = false := by simpa using hgt
              have u2 : decide (r.core < r.len - us) = false := by simpa using hgt
              have HD1 := Lib.hid (show false = true → lfJ v L0 (j + 1) = 0 from by simp)
              clear hgt hdj
              go_quiet (fail)
              go_upto_region 19 with fail
              go_quiet (fail)
              go_wp2_with fail
              go_roundw
              case rel => exact ⟨j + 1, i + 1, al + us, false, by omega, HIQ.out, by go_num, by go_num, rfl, rfl, HI1, HAL1, HD1, Lib.hid (below_drewN HB9.out _)⟩
              case measure => simp [intOf]; omega
          · have hlf0 := hdj rfl
            have hus0 : us = 0 := by omega
            have u1 : decide (us > 0) = false := by simp; omega
            have u2 : decide (0 < us) = false := by simp; omega
            have HD1 := Lib.hid (show true = true → lfJ v L0 (j + 1) = 0 from fun _ => by rw [HLS.out]; omega)
            clear hdj hlf0 hus0
            go_quiet (fail)
            go_upto_region 19 with fail
            go_quiet (fail)
            go_wp2_with fail
            go_roundw
            case rel => exact ⟨j + 1, i + 1, al + us, true, by omega, HIQ.out, by go_num, by go_num, rfl, rfl, HI1, HAL1, HD1, Lib.hid (below_drewN HB9.out _)⟩
            case measure => simp [intOf]; omega
        · obtain rfl : j = nv := by omega
          have hal : al = L0 := by have h1 := HAL.out; have h2 := HEND.out; omega
          have HQ1 := Lib.hid (show i = (useK p n (k + 1)).length from by rw [HUS.out, List.length_append, usW_len, ← HQK.out]; exact HI.out)
          obtain ⟨y0, y1⟩ := HY.out _ HBJ.out
          obtain ⟨x0, x1, x2⟩ := HC.out _ (bstep HB27.out HBJ.out)
          by_cases hnz : n = 0
          · have hL := hL0e.1 hnz
            have hal0 : al = 0 := by omega
            subst hal0
            subst hnz
            clear hal hL0e hL
            go_wp2_with fail
            go_roundw
            case rel => exact ⟨k + 1, i, by omega, hiQ, by go_num, rfl, HQ1, Lib.hid (bstep HB7.out HBJ.out)⟩
            case measure => simp [intOf]; omega
          · have hL := hL0e.2 (by omega)
            have v1 : (n == 0) = false := by simpa using hnz
            have v2 : decide (n > 0) = true := by simp; omega
            have v3 : decide (0 < n) = true := by simp; omega
            have v4 : (al != v.off + n * p.cut) = false := by simp; omega
            clear hal hL0e hL
            go_wp2_with fail
            go_roundw
            case rel => exact ⟨k + 1, i, by omega, hiQ, by go_num, rfl, HQ1, Lib.hid (bstep HB7.out HBJ.out)⟩
            case measure => simp [intOf]; omega
    · obtain rfl : k = M := by omega
      have hqq : q = Q := by rw [HQK.out, HQ.out, HU.out, HMP.out]
      subst hqq
      have HBN := Lib.hid (bstep HBN.out HBI.out)
      go_wp2_with (go_at_call 17; with_reducible refine (haw _).mono ?_; rintro e wn ⟨rfl, hb⟩; have HBN := Lib.hid (bstep HBN.out hb); clear hb)
      go_ret
      exact ⟨rfl, HB1'.out.trans ((bstep HBW.out HBN.out).mono HB1'.out.size)⟩
end Go.Proofs.Ytnbnfadmbggfnaa
