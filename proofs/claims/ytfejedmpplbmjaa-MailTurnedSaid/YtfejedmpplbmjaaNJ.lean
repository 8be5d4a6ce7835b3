/- MailTurned: its plain law and its walk; conditions: bytes. Printed by a program. -/
import Derived.Test.YtfejedmpplbmjaaNI
import Derived.Test.YtfejedmpplbmjaaOG
import Derived.Deep.CutRange
set_option linter.unusedSimpArgs false
set_option linter.unusedVariables false
namespace Go.Ml
open Go.Fh
/-- a stack made of bytes -/
def stkStep (s : List Int × Int) (x : Nat) : List Int × Int := if s.2 + (1 + ((x % 30 : Nat) : Int)) ≤ 200 then (s.1 ++ [1 + ((x % 30 : Nat) : Int)], s.2 + (1 + ((x % 30 : Nat) : Int))) else s
def stkT (l : List Nat) : List Int × Int := l.foldl stkStep ([], 0)
theorem stkT_app (l : List Nat) (x : Nat) : stkT (l ++ [x]) = stkStep (stkT l) x := by simp [stkT]
theorem sumS_app (l : List Int) (k : Int) : sumS (l ++ [k]) = sumS l + k := by
  induction l with
  | nil => simp [sumS]
  | cons a l ih => rw [List.cons_append]; simp only [sumS]; rw [ih]; omega
structure StkOk (s : List Int × Int) : Prop where
  sum : sumS s.1 = s.2
  pos : ∀ k ∈ s.1, 1 ≤ k ∧ k ≤ 30
  le : s.2 ≤ 200
  len : (s.1.length : Int) ≤ s.2
theorem stk_step {s : List Int × Int} (h : StkOk s) (x : Nat) : StkOk (stkStep s x) := by
  have hx : x % 30 < 30 := Nat.mod_lt _ (by omega)
  unfold stkStep
  split
  · refine ⟨?_, ?_, by assumption, ?_⟩
    · rw [sumS_app, h.sum]
    · intro k hk
      rcases List.mem_append.1 hk with hk | hk
      · exact h.pos k hk
      · simp at hk; omega
    · have := h.len
      rw [List.length_append]
      simp
      omega
  · exact h
theorem stk_ok (l : List Nat) : StkOk (stkT l) := by
  have : ∀ (l : List Nat) (s : List Int × Int), StkOk s → StkOk (l.foldl stkStep s) := by
    intro l
    induction l with
    | nil => intro s h; exact h
    | cons x l ih => intro s h; exact ih _ (stk_step h x)
  exact this l _ ⟨rfl, by simp, by decide, by decide⟩
theorem len_sum : ∀ (l : List Int), (∀ k ∈ l, 1 ≤ k) → (l.length : Int) ≤ sumS l := by
  intro l
  induction l with
  | nil => intro _; exact Int.le_refl _
  | cons a l ih => intro h; have h1 := ih (fun k hk => h k (by simp [hk])); have h2 := h a (by simp); rw [List.length_cons]; simp only [sumS]; omega
theorem sumS_cat : ∀ (l m : List Int), sumS (l ++ m) = sumS l + sumS m := by
  intro l m
  induction l with
  | nil => simp [sumS]
  | cons a l ih => rw [List.cons_append]; simp only [sumS]; rw [ih]; omega
theorem le_sum : ∀ (l : List Int), (∀ k ∈ l, 1 ≤ k) → ∀ k ∈ l, k ≤ sumS l := by
  intro l
  induction l with
  | nil => intro _ k hk; cases hk
  | cons a l ih =>
    intro h k hk
    have h0 := len_sum l (fun k hk => h k (by simp [hk]))
    have h2 := h a (by simp)
    simp only [sumS]
    rcases List.mem_cons.1 hk with rfl | hk
    · omega
    · have := ih (fun k hk => h k (by simp [hk])) k hk; omega
/-- what Straight says of a stack that may be asked about -/
theorem straE_ok {l : List Int} {n most last : Int} (hn : 1 ≤ n ∧ n ≤ 200) (hm : 0 ≤ most) (hl : 0 ≤ last) (hs : sumS l = n) (hp : ∀ k ∈ l, 1 ≤ k) : (straE l most last).2 = 0 ∧ ((straE l most last).1 = true ↔ RightS n most last l) := by
  have hne : l ≠ [] := by rintro rfl; simp [sumS] at hs; omega
  have hlen := len_sum l hp
  have hle := le_sum l hp
  have h2 : ¬ (l = [] ∨ most < 0 ∨ last < 0 ∨ l.any (fun n => !inB n 1 200) = true) := by
    rintro (h | h | h | h)
    · exact hne h
    · omega
    · omega
    · obtain ⟨k, hk, hb⟩ := List.any_eq_true.1 h
      have := hp k hk
      have := hle k hk
      have : inB k 1 200 = true := inB_iff.2 (by omega)
      rw [this] at hb
      cases hb
  unfold straE
  rw [if_neg (by omega), if_neg h2]
  refine ⟨rfl, ?_⟩
  have hr := stF_run (limit := most) l 0 0
  rw [Bool.and_eq_true]
  constructor
  · rintro ⟨h3, h4⟩
    rw [if_pos h3] at hr
    exact ⟨hp, by omega, _, hr, h4⟩
  · rintro h
    obtain ⟨y, h3, h4⟩ := h.run
    rw [hr] at h3
    split at h3
    · rename_i h5
      injection h3 with h3
      exact ⟨h5, by rw [h3]; exact h4⟩
    · cases h3
end Go.Ml
namespace Go.Proofs.Ytfejedmpplbmjaa
open Go.RowKit Go.Fh Go.Ml
set_option maxRecDepth 100000 in
set_option maxHeartbeats 8000000 in
theorem mailTurned_walk (haw : ∀ w : World, Calls Try.prog 10 #[] w fun e w' => e = .returned (.bool true) ∧ Below w.heap.size w w') (A : Option Addr) (c : Nat) (l : List Nat) (lim last : Int) (W : World) (hlm : l.length ≤ 9223372036854775807) (hwf : ∀ n ∈ l, n ≤ 255) (hs : Sl encBn 1 W W.heap.size A l) (h1 : 0 ≤ lim) (h2 : lim ≤ 255) (h3 : 0 ≤ last) (h4 : last ≤ 255) :
    Calls Try.prog 6 #[.slice A l.length c, .int .u8 lim, .int .u8 last] W fun e w' => e = .returned (.bool true) ∧ Below W.heap.size W w' := by
  have HAW := Lib.hid haw
  have HS := Lib.hid hs
  have HWF := Lib.hid hwf
  obtain ⟨iT, hi, hz0, hz1, hz2⟩ := info_parts infoInt
  have HI := Lib.hid hi
  clear haw hs hwf hi
  go_enter Try.func6, Try.ntmps6
  go_upto_region 4 with fail
  go_loopw [7, 8, 25] (fun u7 u8 u wr => ∃ (q : Nat) (vS : Value) (ls : List Int) (sm : Int), q ≤ l.length ∧ vS = u7 ∧ u8 = .int .i64 sm ∧ u = .int .i64 (q : Int) ∧ Hid (stkT (l.take q) = (ls, sm)) ∧ Hid (wr.ownsRow W.heap.size 3 1 vS ls.length (ls.map (Value.int .i64))) ∧ Hid (Below W.heap.size W wr)) (fun _ _ i _ => l.length + 1 - (intOf i).toNat)
  case atStart => exact ⟨0, _, [], 0, Nat.zero_le _, rfl, rfl, rfl, Lib.hid rfl, Lib.hid (World.ownsRow_nil _ _ _ _), Lib.hid (Below.refl _ _)⟩
  case round =>
    obtain ⟨q, vS, ls, sm, hq, rfl, rfl, rfl, HST, HRO, HBW⟩ := hrel
    have hok := stk_ok (l.take q)
    rw [HST.out] at hok
    have hsm : 0 ≤ sm ∧ sm ≤ 200 := by have a := hok.len; have b := hok.le; dsimp only at a b; omega
    have hll : ls.length ≤ 200 := by have a := hok.len; dsimp only at a; omega
    by_cases hlt : q < l.length
    · have t1 : decide ((q : Int) < (l.length : Int)) = true := decide_eq_true (by omega)
      obtain ⟨x, hx⟩ : ∃ x, x = l[q] := ⟨_, rfl⟩
      have hxb : x ≤ 255 := by rw [hx]; exact HWF.out _ (List.getElem_mem hlt)
      obtain ⟨b1, o1, hA1, hb1, e1⟩ := Sl.atBn (HS.out.below HBW.out) hlt
      rw [← hx] at e1
      subst hA1
      obtain ⟨k, hk⟩ : ∃ k : Int, k = 1 + ((x % 30 : Nat) : Int) := ⟨_, rfl⟩
      have hkb : 1 ≤ k ∧ k ≤ 30 := by have : x % 30 < 30 := Nat.mod_lt _ (by omega); omega
      have p0 : IntKind.i64.wrap (x : Int) = (x : Int) := by rw [IntKind.wrap_i64]; omega
      have p1 : IntKind.i64.wrap ((x : Int) % 30) = (x : Int) % 30 := by rw [IntKind.wrap_i64]; omega
      have p2 : IntKind.i64.wrap (1 + (x : Int) % 30) = k := by rw [IntKind.wrap_i64]; omega
      have p3 : ((x : Int)).tmod 30 = (x : Int) % 30 := Int.tmod_eq_emod_of_nonneg (by omega)
      have p4 : IntKind.i64.wrap (sm + k) = sm + k := by rw [IntKind.wrap_i64]; omega
      have HNX := Lib.hid (show stkT (l.take (q + 1)) = if sm + k ≤ 200 then (ls ++ [k], sm + k) else (ls, sm) from by
        rw [show l.take (q + 1) = l.take q ++ [x] from by rw [hx]; simp, stkT_app, HST.out]
        unfold stkStep
        rw [← hk])
      clear hx hk hok
      go_upto_region 7 with fail
      by_cases hle : sm + k ≤ 200
      · have t2 : decide (sm + k ≤ 200) = true := by simpa using hle
        have HNY := Lib.hid (show stkT (l.take (q + 1)) = (ls ++ [k], sm + k) from by rw [HNX.out, if_pos hle])
        have hA7 := own_belowV HRO.out (balR (Below.refl wr.heap.size wr) (.cells #[.int .i64 k] 3))
        have HA7 := Lib.hid hA7
        have HBZ := Lib.hid (show W.heap.size ≤ wr.heap.size from HBW.out.size)
        clear hA7
        go_wp2_with (at_builtin; refine wpList_append_lies _ rfl (.tmp 37) (.tmp 39) 22 rfl W.heap.size 3 iT _ 1 8 Try.underlying22 HI.out hz0 hz1 hz2 rfl (by decide) vS ls.length (ls.map (Value.int .i64)) rfl HA7.out ⟨wr.heap.size, 0, none⟩ 1 1 [.int .i64 k] rfl rfl (news_of1 wr 3 #[.int .i64 k]) (by intro u hu; simp at hu; subst hu; rfl) (by decide) (by simp only [maxLen]; omega) (by omega) (by have := HBZ.out; simp; omega) (wr.heap.size + 1) (by simp) ?_; intro g9 c9 w9 hown9 hg9 hat9 hlt9; have H9 := Lib.hid hown9; have HG9 := Lib.hid hg9; clear hown9 hg9 hat9 hlt9)
        go_roundw
        case rel =>
          refine ⟨q + 1, .slice (some ⟨g9, 0, none⟩) (ls.length + 1) c9, ls ++ [k], sm + k, by omega, rfl, rfl, by go_num, HNY, Lib.hid (by rw [List.length_append, List.map_append]; exact H9.out), Lib.hid ?_⟩
          exact (balR HBW.out _).grown HG9.out (by have := HBZ.out; simp; omega) (fun j hj => (own_at HA7.out hj).2)
        case measure => simp [intOf]; omega
      · have t2 : decide (sm + k ≤ 200) = false := by simpa using hle
        have HNY := Lib.hid (show stkT (l.take (q + 1)) = (ls, sm) from by rw [HNX.out, if_neg hle])
        go_wp2
        go_roundw
        case rel => exact ⟨q + 1, vS, ls, sm, by omega, rfl, rfl, by go_num, HNY, HRO, HBW⟩
        case measure => simp [intOf]; omega
    · obtain rfl : q = l.length := by omega
      have t1 : decide ((l.length : Int) < (l.length : Int)) = false := by simp
      obtain ⟨AS, cS, hvS⟩ := own_shape HRO.out
      subst hvS
      by_cases hz : sm = 0
      · subst hz
        go_wp2_with (go_at_call 10; refine (HAW.out _).mono ?_; rintro e w2 ⟨rfl, hb⟩; have HB2 := Lib.hid hb; clear hb)
        go_ret
        exact ⟨rfl, bstep HBW.out HB2.out⟩
      · have hsum : sumS ls = sm := hok.sum
        have hpos : ∀ k ∈ ls, 1 ≤ k := fun k hk => (hok.pos k hk).1
        have tz : (sm == 0) = false := by simpa using hz
        obtain ⟨mo, hmo⟩ : ∃ m, m = 1 + lim % sm := ⟨_, rfl⟩
        have hm0 := Int.emod_nonneg lim hz
        have hm1 := Int.emod_lt_of_pos lim (show 0 < sm by omega)
        obtain ⟨en, hen⟩ : ∃ m, m = last % (mo + 1) := ⟨_, rfl⟩
        have hn0 := Int.emod_nonneg last (show mo + 1 ≠ 0 by omega)
        have hn1 := Int.emod_lt_of_pos last (show 0 < mo + 1 by omega)
        rw [← hen] at hn0 hn1
        have c0 : IntKind.i64.wrap lim = lim := by rw [IntKind.wrap_i64]; omega
        have c1 : IntKind.i64.wrap last = last := by rw [IntKind.wrap_i64]; omega
        have c2 : IntKind.i64.wrap (lim.tmod sm) = lim % sm := by rw [Int.tmod_eq_emod_of_nonneg h1, IntKind.wrap_i64]; omega
        have c2' : IntKind.i64.wrap (lim % sm) = lim % sm := by rw [IntKind.wrap_i64]; omega
        have c3 : IntKind.i64.wrap (1 + lim % sm) = mo := by rw [← hmo, IntKind.wrap_i64]; omega
        have c4 : IntKind.i64.wrap (mo + 1) = mo + 1 := by rw [IntKind.wrap_i64]; omega
        have c5 : last.tmod (mo + 1) = en := by rw [Int.tmod_eq_emod_of_nonneg h3, ← hen]
        have c5' : IntKind.i64.wrap en = en := by rw [IntKind.wrap_i64]; omega
        have c8 : last % (mo + 1) = en := hen.symm
        have c6 : ¬ mo + 1 = 0 := by omega
        have c7 : ((mo + 1) == 0) = false := by simpa using c6
        have hso := straE_ok (l := ls) (n := sm) (most := mo) (last := en) (by omega) (by omega) (by omega) hsum hpos
        obtain ⟨b1, hb1⟩ : ∃ b, b = (straE ls mo en).1 := ⟨_, rfl⟩
        rw [← hb1] at hso
        have hse : (b1, (0 : Int)) = straE ls mo en := by rw [hb1, ← hso.1]
        have H24 := Lib.hid (fun X (hX : Below wr.heap.size wr X) => straight_any AS cS ls.length ls mo en X rfl (by omega) (by omega) (by omega) ((own_sl (c := cS) (HRO.out)).below hX |>.mono hX.size) b1 0 hse)
        have H25 := Lib.hid (fun X => turns_any sm mo en X (by omega) (by omega) (by omega))
        have hmb : 1 ≤ mo ∧ mo ≤ sm := by omega
        have hturn : turO sm mo en = match turnS sm mo en with | none => ([], 4) | some l => (l, 0) := by
          have hi : (!inB sm 1 200 || (!inB mo 1 sm || !inB en 0 mo)) = false := by
            rw [inB_iff.2 (show 1 ≤ sm ∧ sm ≤ 200 by omega), inB_iff.2 hmb, inB_iff.2 (show 0 ≤ en ∧ en ≤ mo by omega)]
            rfl
          unfold turO
          rw [hi]
          rfl
        have HSM := Lib.hid hsum
        have HPO := Lib.hid hpos
        have HSO := Lib.hid hso.2
        have HMB := Lib.hid hmb
        clear hmo hm0 hm1 hen hb1 hse hso hsum hpos hok HST hmb
        by_cases hneg : endS sm en < 0
        · have htO : turO sm mo en = ([], 4) := by rw [hturn]; unfold turnS; rw [if_pos hneg]
          have hbf : b1 = false := by
            cases hb : b1 with
            | false => rfl
            | true => exact absurd (HSO.out.1 hb) (turn_none HMB.out.1 (by omega) hneg ls)
          have hpar : sm % 2 = 1 ∧ en = 0 := by
            unfold endS at hneg
            split at hneg
            · omega
            · omega
          have hp2 : sm.tmod 2 = 1 := by rw [Int.tmod_eq_emod_of_nonneg (by omega)]; exact hpar.1
          have hp3 : IntKind.i64.wrap (sm % 2) = 1 := by rw [hpar.1]; decide
          have hp4 : IntKind.i64.wrap (sm.tmod 2) = 1 := by rw [hp2]; decide
          obtain ⟨hp1, hp0⟩ := hpar
          subst hp0
          have HTO := Lib.hid htO
          subst hbf
          clear hturn htO hneg
          go_upto_region 17 with first
            | (go_at_call 24; with_reducible refine (H24.out _ (Below.refl _ _)).mono ?_; rintro e w2 ⟨rfl, HB2⟩)
            | (go_at_call 25; with_reducible refine (H25.out _).mono ?_; rintro e w3 ⟨AT, cT, rfl, HT3, HB3⟩; rw [HTO.out]; clear HT3)
          go_wp2_with (go_at_call 10; refine (HAW.out _).mono ?_; rintro e w4 ⟨rfl, hb⟩; have HB4 := Lib.hid hb; clear hb)
          go_ret
          exact ⟨rfl, bstep (bstep (bstep HBW.out HB2.out) HB3.out) HB4.out⟩
        · have hff : True := trivial
          have hst : turnS sm mo en = some (grdF sm mo en (mS sm mo (endS sm en)) 0 0 0) := by unfold turnS; rw [if_neg hneg]
          have htp := turn_some (n := sm) (limit := mo) (last := en) HMB.out.1 (by omega) (by omega) hn0 (by omega)
          obtain ⟨s, hs⟩ : ∃ s, s = grdF sm mo en (mS sm mo (endS sm en)) 0 0 0 := ⟨_, rfl⟩
          rw [← hs] at hst htp
          have HTO := Lib.hid (show turO sm mo en = (s, 0) from by rw [hturn, hst])
          have hsp : ∀ k ∈ s, 1 ≤ k := htp.right.pos
          have hss : sumS s = sm := by have := htp.right.sum; omega
          have hsl : (s.length : Int) ≤ sm := by rw [← hss]; exact len_sum s hsp
          have hso2 := straE_ok (l := s) (n := sm) (most := mo) (last := en) (by omega) (by omega) (by omega) hss hsp
          have hse2 : (true, (0 : Int)) = straE s mo en := by
            have h1 : (straE s mo en).1 = true := hso2.2.2 htp.right
            rw [← h1, ← hso2.1]
          have HSP := Lib.hid hsp
          have HSS := Lib.hid hss
          have HTP := Lib.hid htp
          have H24b := Lib.hid (fun (AT : Option Addr) (cT : Nat) (X : World) (hX : Sl encInt 1 X X.heap.size AT s) => straight_any AT cT s.length s mo en X rfl (by omega) (by have := HMB.out; omega) (by have := HMB.out; omega) hX true 0 hse2)
          have HLS := Lib.hid (show ls.length ≤ 200 ∧ s.length ≤ 200 from ⟨hll, by omega⟩)
          clear hturn hst htp hs hsp hss hso2 hse2 hneg
          go_upto_region 23 with first
            | (go_at_call 24; with_reducible refine (H24.out _ (Below.refl _ _)).mono ?_; rintro e w2 ⟨rfl, HB2⟩)
            | (go_at_call 25; with_reducible refine (H25.out _).mono ?_; rintro e w3 ⟨AT, cT, rfl, HT3, HB3⟩; rw [HTO.out] at HT3 ⊢)
          have HBW3 := Lib.hid (show Below W.heap.size W w3 from bstep (bstep HBW.out HB2.out) HB3.out)
          have HLS3 := Lib.hid (show Sl encInt 1 w3 w3.heap.size AS ls from by have hb := bstep HB2.out HB3.out; exact ((own_sl (c := cS) HRO.out).below hb).mono hb.size)
          clear c0 c1 c2 c2' c3 c4 c5 c5' c6 c7 c8
          go_loopw [18, 96] (fun u18 u wz => ∃ i : Nat, i ≤ s.length ∧ u18 = .int .i64 (sumS (s.take i)) ∧ u = .int .i64 (i : Int) ∧ Hid (Below w3.heap.size w3 wz)) (fun _ i _ => s.length + 1 - (intOf i).toNat)
          case atStart => exact ⟨0, Nat.zero_le _, rfl, rfl, Lib.hid (Below.refl _ _)⟩
          case round =>
            obtain ⟨i, hi, rfl, rfl, HBZ⟩ := hrel
            by_cases hlti : i < s.length
            · have t5 : decide ((i : Int) < (s.length : Int)) = true := decide_eq_true (by omega)
              obtain ⟨k, hk⟩ : ∃ k, k = s[i] := ⟨_, rfl⟩
              obtain ⟨b2, o2, hA2, hb2, e2⟩ := (HT3.out.below HBZ.out).at1 hlti
              rw [← hk] at e2
              subst hA2
              have htk : s.take (i + 1) = s.take i ++ [k] := by rw [hk]; simp
              obtain ⟨pa, hpa⟩ : ∃ p, p = sumS (s.take i) := ⟨_, rfl⟩
              have hnx : sumS (s.take (i + 1)) = pa + k := by rw [htk, sumS_app, hpa]
              have hpb : 0 ≤ pa ∧ pa ≤ 200 := by
                have h0 := len_sum (s.take i) (fun q hq => HSP.out q (List.mem_of_mem_take hq))
                have h1 := len_sum (s.drop i) (fun q hq => HSP.out q (List.mem_of_mem_drop hq))
                have h2 : sumS (s.take i) + sumS (s.drop i) = sumS s := by rw [← sumS_cat, List.take_append_drop]
                rw [HSS.out] at h2
                rw [← hpa] at h0 h2
                omega
              have hkb : 1 ≤ k ∧ k ≤ 200 := by
                have h0 := HSP.out k (by rw [hk]; exact List.getElem_mem hlti)
                have h1 := le_sum s HSP.out k (by rw [hk]; exact List.getElem_mem hlti)
                rw [HSS.out] at h1
                omega
              have p9 : IntKind.i64.wrap (pa + k) = pa + k := by rw [IntKind.wrap_i64]; omega
              have HNX2 := Lib.hid hnx
              rw [← hpa]
              clear hk htk hpa hnx
              go_wp2
              go_roundw
              case rel => exact ⟨i + 1, by omega, by rw [HNX2.out], by go_num, HBZ⟩
              case measure => simp [intOf]; omega
            · obtain rfl : i = s.length := by omega
              have t5 : decide ((s.length : Int) < (s.length : Int)) = false := by simp
              rw [List.take_length, HSS.out]
              have HTZ := Lib.hid ((HT3.out.below HBZ.out).mono HBZ.out.size)
              have HLZ := Lib.hid ((HLS3.out.below HBZ.out).mono HBZ.out.size)
              have H24z := Lib.hid (H24b.out AT cT _ HTZ.out)
              obtain ⟨l1, l2⟩ := HLS.out
              cases b1
              · go_wp2_with first
                  | (go_at_call 24; with_reducible refine H24z.out.mono ?_; rintro e w4 ⟨rfl, HB4⟩)
                  | (go_at_call 10; refine (HAW.out _).mono ?_; rintro e w5 ⟨rfl, hb⟩; have HB5 := Lib.hid hb; clear hb)
                all_goals
                  go_ret
                  exact ⟨rfl, bstep (bstep (bstep HBW3.out HBZ.out) HB4.out) HB5.out⟩
              · have hfew := HTP.out.few ls (HSO.out.1 rfl)
                by_cases hlen : s.length < ls.length
                · have t6 : decide ((s.length : Int) < (ls.length : Int)) = true := decide_eq_true (by omega)
                  clear hfew
                  go_wp2_with first
                    | (go_at_call 24; with_reducible refine H24z.out.mono ?_; rintro e w4 ⟨rfl, HB4⟩)
                    | (go_at_call 10; refine (HAW.out _).mono ?_; rintro e w5 ⟨rfl, hb⟩; have HB5 := Lib.hid hb; clear hb)
                  all_goals
                    go_ret
                    exact ⟨rfl, bstep (bstep (bstep HBW3.out HBZ.out) HB4.out) HB5.out⟩
                · have hle2 : s.length = ls.length ∧ lexS ls s = false := by rcases hfew with h | h; exact absurd h hlen; exact h
                  have t6 : decide ((s.length : Int) < (ls.length : Int)) = false := by simp; omega
                  have t7 : ((s.length : Int) == (ls.length : Int)) = true := by simp; omega
                  have t7' : decide ((s.length : Int) = (ls.length : Int)) = true := by simp; omega
                  obtain ⟨r, hr⟩ : ∃ r, r = cmpL s ls := ⟨_, rfl⟩
                  have hr0 : r ≤ 0 := by rw [hr]; exact cmpL_le s ls hle2.1 hle2.2
                  have t8 : decide (r ≤ 0) = true := by simpa using hr0
                  have H26 := Lib.hid (fun X (hX : Below wr.heap.size wr X) => compare_any AT AS cT cS s.length ls.length s ls X rfl rfl (by omega) (by omega) ((HTZ.out.below hX).mono hX.size) ((HLZ.out.below hX).mono hX.size) r hr)
                  clear hfew hle2 hlen hr hr0
                  go_wp2_with first
                    | (go_at_call 24; with_reducible refine H24z.out.mono ?_; rintro e w4 ⟨rfl, HB4⟩)
                    | (go_at_call 26; with_reducible refine (H26.out _ HB4.out).mono ?_; rintro e w6 ⟨rfl, HB6⟩)
                    | (go_at_call 10; refine (HAW.out _).mono ?_; rintro e w5 ⟨rfl, hb⟩; have HB5 := Lib.hid hb; clear hb)
                  all_goals
                    go_ret
                    first
                      | exact ⟨rfl, bstep (bstep (bstep (bstep HBW3.out HBZ.out) HB4.out) HB6.out) HB5.out⟩
                      | exact ⟨rfl, bstep (bstep (bstep HBW3.out HBZ.out) HB4.out) HB5.out⟩
end Go.Proofs.Ytfejedmpplbmjaa
