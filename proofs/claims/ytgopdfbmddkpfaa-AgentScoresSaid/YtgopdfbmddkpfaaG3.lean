/- Contract of Rate; conditions: none. -/
import Derived.Test.YtgopdfbmddkpfaaChecked
import Derived.Test.YtgopdfbmddkpfaaBase
import Derived.Test.YtgopdfbmddkpfaaP1
import Derived.Test.YtgopdfbmddkpfaaT2
set_option linter.unusedSimpArgs false
set_option linter.unusedVariables false
namespace Go.Proofs.Ytgopdfbmddkpfaa
open Go.RowKit Go.Fh

set_option maxRecDepth 20000 in
set_option maxHeartbeats 2000000 in
theorem ratio_any (n d : Nat) (w : World) (hn : n ≤ 1000000000000) (hd : d ≤ 1000000000000) (hp : 0 < d) :
    Calls Try.prog 80 #[.int .i64 n, .int .i64 d] w fun e w' => e = .returned (.agg #[.int .i64 ((n / Nat.gcd n d : Nat) : Int), .int .i64 ((d / Nat.gcd n d : Nat) : Int)]) ∧ Below w.heap.size w w' := by
  go_enter Try.func80, Try.ntmps80
  go_wp2_with fail
  go_loopw [5, 6] (fun u v wr => ∃ a b : Nat, a ≤ 1000000000000 ∧ b ≤ 1000000000000 ∧ Nat.gcd a b = Nat.gcd n d ∧ u = .int .i64 a ∧ v = .int .i64 b ∧ Blk wr w.heap.size 74 #[.int .i64 0, .int .i64 0] ∧ Below w.heap.size w wr) (fun _ v _ => (intOf v).toNat)
  case atStart => exact ⟨n, d, hn, hd, rfl, rfl, rfl, Blk.new _ _ _, (Below.refl _ _).alloc (Nat.le_refl _) _⟩
  case round =>
    obtain ⟨a, b, ha, hb, hg, rfl, rfl, hk, hB⟩ := hrel
    have hc0 := hk.cell 0
    have hc1 := hk.cell 1
    have hf0 := hk.frozen 0
    have hf1 := hk.frozen 1
    simp at hc0 hc1
    have HK := Lib.hid hk
    clear hk
    by_cases h0 : b = 0
    · subst h0
      rw [Nat.gcd_zero_right] at hg
      have hgp : 0 < a := by rw [hg]; exact Nat.gcd_pos_of_pos_right _ hp
      have HG := Lib.hid hg
      clear hg
      have t0 : ((a : Int) == 0) = false := by simp; omega
      have e1 : wrap64 ((n : Int) / (a : Int)) = ((n / Nat.gcd n d : Nat) : Int) := by
        rw [← HG.out, ← Int.natCast_ediv]
        have hle : n / a ≤ n := Nat.div_le_self _ _
        generalize n / a = k0 at hle ⊢
        unfold wrap64
        omega
      have e2 : wrap64 ((d : Int) / (a : Int)) = ((d / Nat.gcd n d : Nat) : Int) := by
        rw [← HG.out, ← Int.natCast_ediv]
        have hle : d / a ≤ d := Nat.div_le_self _ _
        generalize d / a = k0 at hle ⊢
        unfold wrap64
        omega
      have E1 := Lib.hid e1
      have E2 := Lib.hid e2
      clear e1 e2
      go_wp2_with fail
      go_region
      all_goals go_wp2_with fail
      all_goals
        have kf := ((HK.out.set_ 0 (.int .i64 (wrap64 ((n : Int) / (a : Int))))).set_ 1 (.int .i64 (wrap64 ((d : Int) / (a : Int))))).drew
        have kf0 := kf.cell 0
        have kf1 := kf.cell 1
        simp at kf0 kf1
        have hbf := ((hB.setCell (p := ⟨w.heap.size, 0, none⟩) (Nat.le_refl _) (.int .i64 (wrap64 ((n : Int) / (a : Int))))).setCell (p := ⟨w.heap.size, 1, none⟩) (Nat.le_refl _) (.int .i64 (wrap64 ((d : Int) / (a : Int))))).drew
        refine bodyPost_ret (v := .agg #[.int .i64 (wrap64 ((n : Int) / (a : Int))), .int .i64 (wrap64 ((d : Int) / (a : Int)))]) ?_ rfl ⟨by rw [E1.out, E2.out], hbf⟩
        simp [results, Try.results80, Try.f80, go_sem, kf0, kf1]
    · have t0 : ((b : Int) != 0) = true := by simp; omega
      have t1 : ((b : Int) == 0) = false := by simp; omega
      have HG := Lib.hid hg
      clear hg
      go_wp2_with fail
      go_region
      all_goals go_wp2_with fail
      all_goals go_roundw
      case rel => exact ⟨b, a % b, hb, by have := Nat.mod_lt a (show 0 < b by omega); omega, by rw [← HG.out, Nat.gcd_comm a b, Nat.gcd_rec b a, Nat.gcd_comm], rfl, by simp, HK.out.drew, hB.drew⟩
      case measure => have := Nat.mod_lt a (show 0 < b by omega); simp [intOf]; omega
end Go.Proofs.Ytgopdfbmddkpfaa
namespace Go.Ag
open Go.Proofs.Ytgopdfbmddkpfaa
theorem maxOf_bd {l : List Int} (h : ∀ x ∈ l, 0 ≤ x ∧ x ≤ 10000) : 0 ≤ Lib.maxOf l ∧ Lib.maxOf l ≤ 10000 := by
  have key : ∀ (l : List Int) (a : Int), 0 ≤ a → a ≤ 10000 → (∀ x ∈ l, 0 ≤ x ∧ x ≤ 10000) → 0 ≤ l.foldl max a ∧ l.foldl max a ≤ 10000 := by
    intro l
    induction l with
    | nil => intro a h1 h2 _; exact ⟨h1, h2⟩
    | cons x l ih =>
      intro a h1 h2 h3
      have hx := h3 x (by simp)
      exact ih (max a x) (by omega) (by omega) (fun y hy => h3 y (by simp [hy]))
  unfold Lib.maxOf
  cases l with
  | nil => simp
  | cons x l =>
    have hx := h x (by simp)
    exact key (x :: l) x hx.1 hx.2 h
theorem sayV_bd {k : Int} {l : List Int} (hp : 0 < l.length) (h : ∀ x ∈ l, 0 ≤ x ∧ x ≤ 10000) : 0 ≤ sayV k l ∧ sayV k l ≤ 10000 := by
  unfold sayV
  split
  · have : l.getD 0 0 = l[0] := by simp [hp]
    rw [this]
    exact h _ (List.getElem_mem hp)
  · split
    · exact maxOf_bd h
    · have hs := sumI_bd h
      have hn : (0 : Int) < l.length := by omega
      refine ⟨Int.ediv_nonneg (by omega) (by omega), ?_⟩
      have := Int.ediv_lt_of_lt_mul (a := sumI l + l.length - 1) (b := 10001) (c := l.length) hn (by omega)
      omega
theorem saysM_bd {m : Int × Int} {h : List (Int × Int)} {day : Int} (hm : 1 ≤ m.2) (hd : ∀ d ∈ h, OkDay d) : 0 ≤ (saysM m h day).1 ∧ (saysM m h day).1 ≤ 10000 := by
  unfold saysM
  split
  · simp
  · rename_i hlt
    have hl := soldL_len m h day
    refine sayV_bd (by omega) ?_
    intro x hx
    simp only [soldL, List.mem_map] at hx
    obtain ⟨y, _, rfl⟩ := hx
    exact soldAt_bd hd y
/-- of how many of the first k days a method says something, and the losses together -/
def rateN (m : Int × Int) (h : List (Int × Int)) (over under : Int) : Nat → Nat × Int
  | 0 => (0, 0)
  | k + 1 => if (saysM m h k).2 = true then ((rateN m h over under k).1 + 1, (rateN m h over under k).2 + lossOf (h.getD k (0, 0)).1 (h.getD k (0, 0)).2 (saysM m h k).1 over under) else rateN m h over under k
theorem rateN_bd {m : Int × Int} {h : List (Int × Int)} {over under : Int} (hm : 1 ≤ m.2) (hd : ∀ d ∈ h, OkDay d) (h7 : 0 ≤ over) (h8 : over ≤ 1000) (h9 : 0 ≤ under) (h10 : under ≤ 1000) (k : Nat) (hk : k ≤ h.length) :
    (rateN m h over under k).1 ≤ k ∧ 0 ≤ (rateN m h over under k).2 ∧ (rateN m h over under k).2 ≤ 10000000 * k := by
  induction k with
  | zero => simp [rateN]
  | succ k ih =>
    have ih := ih (by omega)
    unfold rateN
    split
    · have hq := saysM_bd (day := k) hm hd
      have hx : h.getD k (0, 0) = h[k] := by simp [show k < h.length by omega]
      have := lossOf_bd (s := h[k].1) (r := h[k].2) (q := (saysM m h k).1) (over := over) (under := under) (hd _ (List.getElem_mem (by omega))) hq.1 hq.2 h7 h8 h9 h10
      rw [hx]
      dsimp only
      omega
    · omega
end Go.Ag
namespace Go.Proofs.Ytgopdfbmddkpfaa
open Go.RowKit Go.Fh Go.Ag

theorem gcd_any : ∀ (b a : Nat) (w : World), a ≤ 1000000000000 → b ≤ 1000000000000 →
    Calls Try.prog 115 #[.int .i64 a, .int .i64 b] w fun e w' => e = .returned (.int .i64 ((Nat.gcd a b : Nat) : Int)) ∧ w = w' := by
  intro b
  induction b using Nat.strongRecOn with
  | ind b ih =>
    intro a w ha hb
    by_cases h0 : b = 0
    · subst h0
      go_enter Try.func115, Try.ntmps115
      go_wp2_with fail
      go_ret
      exact ⟨by rw [Nat.gcd_zero_right]; rfl, rfl⟩
    · have t1 : ((b : Int) == 0) = false := by simp; omega
      have hlt := Nat.mod_lt a (show 0 < b by omega)
      have hg : Nat.gcd b (a % b) = Nat.gcd a b := by rw [Nat.gcd_comm a b, Nat.gcd_rec b a, Nat.gcd_comm]
      have IH := Lib.hid (ih (a % b) hlt b w hb (by omega))
      rw [hg] at IH
      rw [Int.natCast_emod] at IH
      clear ih hlt hg
      go_enter Try.func115, Try.ntmps115
      go_wp2_with fail
      refine IH.out.mono ?_
      rintro e w' ⟨rfl, rfl⟩
      go_wp2_with fail
      go_ret
      exact ⟨rfl, rfl⟩

set_option maxRecDepth 20000 in
set_option maxHeartbeats 4000000 in
theorem rateN_any (m : Int × Int) (A : Option Addr) (c : Nat) (h : List (Int × Int)) (over under : Int) (w : World) (hl : h.length ≤ 400) (hA : Sl enc2 2 w w.heap.size A h) (hd : ∀ d ∈ h, OkDay d) (hw : wrongM m = false)
    (h7 : 0 ≤ over) (h8 : over ≤ 1000) (h9 : 0 ≤ under) (h10 : under ≤ 1000) :
    Calls Try.prog 79 #[.agg #[.int .i64 m.1, .int .i64 m.2], .slice A h.length c, .int .i64 over, .int .i64 under] w fun e w' => e = .returned (.tuple #[.int .i64 ((rateN m h over under h.length).1 : Nat), .int .i64 (rateN m h over under h.length).2]) ∧ Below w.heap.size w w' := by
  have hm2 : 1 ≤ m.2 := by simp [wrongM, inB] at hw; omega
  have hb0 : Below w.heap.size w (w.alloc (.cells #[.int .i64 m.1, .int .i64 m.2] 72)) := (Below.refl _ _).alloc (Nat.le_refl _) _
  have hk0 : Blk (w.alloc (.cells #[.int .i64 m.1, .int .i64 m.2] 72)) w.heap.size 72 #[.int .i64 m.1, .int .i64 m.2] := Blk.new _ _ _
  have HA := Lib.hid hA
  have HD := Lib.hid hd
  have HW := Lib.hid hw
  have HB0 := Lib.hid hb0
  have HK0 := Lib.hid hk0
  clear hA hd hw hb0 hk0
  go_enter Try.func79, Try.ntmps79
  go_wp2_with fail
  go_loopw [10, 11, 18] (fun n t i wr => ∃ k : Nat, k ≤ h.length ∧ i = .int .i64 k ∧ n = .int .i64 ((rateN m h over under k).1 : Nat) ∧ t = .int .i64 (rateN m h over under k).2 ∧ Blk wr w.heap.size 72 #[.int .i64 m.1, .int .i64 m.2] ∧ Below w.heap.size w wr) (fun _ _ i _ => h.length - (intOf i).toNat)
  case atStart => exact ⟨0, Nat.zero_le _, rfl, rfl, rfl, HK0.out, HB0.out⟩
  case round =>
    obtain ⟨k, hk, rfl, rfl, rfl, hK, hB⟩ := hrel
    have hbd := rateN_bd hm2 HD.out h7 h8 h9 h10 k hk
    by_cases hlt : k < h.length
    · obtain ⟨b, off, rfl, hb, c0, c1⟩ := (HA.out.below hB).at2 hlt
      obtain ⟨o1, o2, o3, o4⟩ := HD.out _ (List.getElem_mem hlt)
      have hx : h.getD k (0, 0) = h[k] := by simp [hlt]
      obtain ⟨hq1, hq2⟩ := saysM_bd (day := k) hm2 HD.out
      have hst : rateN m h over under (k + 1) = if (saysM m h k).2 = true then ((rateN m h over under k).1 + 1, (rateN m h over under k).2 + lossOf h[k].1 h[k].2 (saysM m h k).1 over under) else rateN m h over under k := by rw [← hx]; rfl
      have hlb := lossOf_bd (s := h[k].1) (r := h[k].2) (q := (saysM m h k).1) (over := over) (under := under) ⟨o1, o2, o3, o4⟩ hq1 hq2 h7 h8 h9 h10
      have hsz := hB.size
      have hbw : b < wr.heap.size := by omega
      have hKn := hK.alloc (.cells #[.int .i64 h[k].1, .int .i64 h[k].2] 33)
      have hBn := hB.alloc hB.size (.cells #[.int .i64 h[k].1, .int .i64 h[k].2] 33)
      have HM := Lib.hid (saysM_any m (some ⟨b, off, none⟩) c h k (wr.alloc (.cells #[.int .i64 h[k].1, .int .i64 h[k].2] 33)) hl ((HA.out.below hBn).mono hBn.size) HD.out HW.out (by omega) (by omega))
      have hD := Blk.new wr 33 #[.int .i64 h[k].1, .int .i64 h[k].2]
      have HL := Lib.hid (fun W => loss_any h[k].1 h[k].2 (saysM m h k).1 over under W o1 o2 o3 o4 hq1 hq2 h7 h8 h9 h10)
      have kc := hKn.cell 0
      have kd := hKn.cell 1
      simp at kc kd
      have HST := Lib.hid hst
      have HKN := Lib.hid hKn
      have HBN := Lib.hid hBn
      have HDB := Lib.hid hD
      clear hst hKn hBn hD hx
      have f1 := IntWalk.i64_in (((rateN m h over under k).1 : Int) + 1) (by omega)
      have f2 := IntWalk.i64_in ((rateN m h over under k).2 + lossOf h[k].1 h[k].2 (saysM m h k).1 over under) (by omega)
      cases hs : (saysM m h k).2
      · rw [hs] at HM HST
        go_wp2_with fail
        refine HM.out.mono ?_
        rintro e w1 ⟨rfl, hb1⟩
        go_wp2_with fail
        go_roundw
        case rel => exact ⟨k + 1, by omega, by go_num, by rw [HST.out]; rfl, by rw [HST.out]; rfl, Blk.below HKN.out hb1 HKN.out.lt, HBN.out.trans (hb1.mono HBN.out.size)⟩
        case measure => simp [intOf]; omega
      · rw [hs] at HM HST
        go_wp2_with fail
        refine HM.out.mono ?_
        rintro e w1 ⟨rfl, hb1⟩
        have kD := Blk.below HDB.out hb1 HDB.out.lt
        have ke := kD.cell 0
        have kf := kD.cell 1
        simp at ke kf
        have HB1 := Lib.hid hb1
        clear hb1 kD
        go_wp2_with fail
        refine (HL.out _).mono ?_
        rintro e w2 ⟨rfl, hb2⟩
        have hb12 := HB1.out.trans (hb2.mono HB1.out.size)
        go_wp2_with fail
        go_roundw
        case rel => exact ⟨k + 1, by omega, by go_num, by rw [HST.out]; rfl, by rw [HST.out]; rfl, Blk.below HKN.out hb12 HKN.out.lt, HBN.out.trans (hb12.mono HBN.out.size)⟩
        case measure => simp [intOf]; omega
    · obtain rfl : k = h.length := by omega
      go_wp2_with fail
      go_ret2
      exact ⟨rfl, hB⟩
end Go.Proofs.Ytgopdfbmddkpfaa
namespace Go.Ag
open Go.Proofs.Ytgopdfbmddkpfaa
def ratioD (n d : Nat) : Int × Int := (((n / Nat.gcd n d : Nat) : Int), ((d / Nat.gcd n d : Nat) : Int))
/-- days, loss as a ratio; the error -/
def rateD (m : Int × Int) (h : List (Int × Int)) (over under : Int) : (Int × Int × Int) × Int :=
  if checkH h ≠ 0 then ((0, 0, 0), checkH h) else if wrongM m = true then ((0, 0, 0), 1) else if costsB over under = false then ((0, 0, 0), 1)
  else if (rateN m h over under h.length).1 = 0 then ((0, 0, 0), 4)
  else ((((rateN m h over under h.length).1 : Nat), ratioD (rateN m h over under h.length).2.toNat (rateN m h over under h.length).1), 0)
end Go.Ag
namespace Go.Proofs.Ytgopdfbmddkpfaa
open Go.RowKit Go.Fh Go.Ag

def scoreV (s : Int × Int × Int) : Value := .agg #[.int .i64 s.1, .int .i64 s.2.1, .int .i64 s.2.2]

set_option maxRecDepth 20000 in
set_option maxHeartbeats 4000000 in
theorem rateD_any (m : Int × Int) (A : Option Addr) (c : Nat) (h : List (Int × Int)) (over under : Int) (w : World) (hl : h.length ≤ 9223372036854775807) (hA : Sl enc2 2 w w.heap.size A h) :
    Calls Try.prog 30 #[.agg #[.int .i64 m.1, .int .i64 m.2], .slice A h.length c, .int .i64 over, .int .i64 under] w fun e w' => e = .returned (.tuple #[scoreV (rateD m h over under).1, .int .i64 (rateD m h over under).2]) ∧ Below w.heap.size w w' := by
  obtain ⟨w0, hw0⟩ : ∃ w0, w0 = (w.alloc (.cells #[.int .i64 m.1, .int .i64 m.2] 72)).alloc (.cells #[.int .i64 0, .int .i64 0, .int .i64 0] 76) := ⟨_, rfl⟩
  have hb0 : Below w.heap.size w w0 := by rw [hw0]; exact ((Below.refl _ _).alloc (Nat.le_refl _) _).alloc (by simp) _
  have hkm : Blk w0 w.heap.size 72 #[.int .i64 m.1, .int .i64 m.2] := by rw [hw0]; exact (Blk.new _ _ _).alloc _
  have hks : Blk w0 (w.heap.size + 1) 76 #[.int .i64 0, .int .i64 0, .int .i64 0] := by
    rw [hw0]
    have := Blk.new (w.alloc (.cells #[.int .i64 m.1, .int .i64 m.2] 72)) 76 #[.int .i64 0, .int .i64 0, .int .i64 0]
    rwa [World.size_alloc] at this
  have HA := Lib.hid hA
  have HC := Lib.hid (check_any A c h w0 hl ((hA.below hb0).mono hb0.size))
  have HB0 := Lib.hid hb0
  have HKM := Lib.hid hkm
  have HKS := Lib.hid hks
  have HW0 := Lib.hid hw0
  clear hA hb0 hkm hks
  by_cases hc : checkH h = 0
  · rw [hc] at HC
    obtain ⟨h400, hd⟩ := checkH_zero.1 hc
    have HD := Lib.hid hd
    have HCZ := Lib.hid hc
    clear hc hd hw0
    cases hw : wrongM m
    · have HW := Lib.hid hw
      cases hk : costsB over under
      · have hs : rateD m h over under = ((0, 0, 0), 1) := by simp [rateD, HCZ.out, hw, hk]
        have HS := Lib.hid hs
        clear hs
        go_enter Try.func30, Try.ntmps30
        go_wp2_with fail
        rw [← HW0.out]
        refine HC.out.mono ?_
        rintro e w1 ⟨rfl, hb1⟩
        have hbb1 := HB0.out.trans (hb1.mono HB0.out.size)
        have ks1 := Blk.below HKS.out hb1 HKS.out.lt
        have km1 := Blk.below HKM.out hb1 HKM.out.lt
        have m0 := km1.cell 0
        have m1 := km1.cell 1
        have mf0 := km1.frozen 0
        have mf1 := km1.frozen 1
        simp at m0 m1
        have KS1 := Lib.hid ks1
        have KM1 := Lib.hid km1
        clear ks1 km1 hb1
        go_wp2_with fail
        refine (wrongM_any m w1).mono ?_
        rintro e w2 ⟨rfl, hb2⟩
        have hbb2 := hbb1.trans (hb2.mono hbb1.size)
        have ks2 := Blk.below KS1.out hb2 KS1.out.lt
        have km2 := Blk.below KM1.out hb2 KM1.out.lt
        have s0 := ks2.cell 0
        have s1 := ks2.cell 1
        have s2 := ks2.cell 2
        have sf0 := ks2.frozen 0
        have sf1 := ks2.frozen 1
        have sf2 := ks2.frozen 2
        simp at s0 s1 s2
        clear m0 m1 mf0 mf1
        go_wp2_with (go_at_call 39; refine (costs_any _ _ _).mono ?_; rintro e w' ⟨rfl, rfl⟩)
        have kf := ((ks2.set_ 0 (.int .i64 0)).set_ 1 (.int .i64 0)).set_ 2 (.int .i64 0)
        have z0 := kf.cell 0
        have z1 := kf.cell 1
        have z2 := kf.cell 2
        simp at z0 z1 z2
        have hbf := ((hbb2.setCell (p := ⟨w.heap.size + 1, 0, none⟩) (by simp) (.int .i64 0)).setCell (p := ⟨w.heap.size + 1, 1, none⟩) (by simp) (.int .i64 0)).setCell (p := ⟨w.heap.size + 1, 2, none⟩) (by simp) (.int .i64 0)
        refine bodyPost_ret (v := .tuple #[.agg #[(.int .i64 0), (.int .i64 0), (.int .i64 0)], .int .i64 1]) ?_ rfl ⟨by rw [HS.out]; rfl, hbf⟩
        simp [results, Try.results30, Try.f30, go_sem, z0, z1, z2]
      · obtain ⟨k1, k2, k3, k4⟩ := costsB_bd hk
        have hm2 : 1 ≤ m.2 := by simp [wrongM, inB] at hw; omega
        by_cases hz : (rateN m h over under h.length).1 = 0
        · have hs : rateD m h over under = ((0, 0, 0), 4) := by simp [rateD, HCZ.out, hw, hk, hz]
          have HS := Lib.hid hs
          have tz : (((rateN m h over under h.length).1 : Int) == 0) = true := by simp [hz]
          clear hs hz
          go_enter Try.func30, Try.ntmps30
          go_wp2_with fail
          rw [← HW0.out]
          refine HC.out.mono ?_
          rintro e w1 ⟨rfl, hb1⟩
          have hbb1 := HB0.out.trans (hb1.mono HB0.out.size)
          have ks1 := Blk.below HKS.out hb1 HKS.out.lt
          have km1 := Blk.below HKM.out hb1 HKM.out.lt
          have m0 := km1.cell 0
          have m1 := km1.cell 1
          have mf0 := km1.frozen 0
          have mf1 := km1.frozen 1
          simp at m0 m1
          have KS1 := Lib.hid ks1
          have KM1 := Lib.hid km1
          clear ks1 km1 hb1
          go_wp2_with fail
          refine (wrongM_any m w1).mono ?_
          rintro e w2 ⟨rfl, hb2⟩
          have hbb2 := hbb1.trans (hb2.mono hbb1.size)
          have ks2 := Blk.below KS1.out hb2 KS1.out.lt
          have km2 := Blk.below KM1.out hb2 KM1.out.lt
          clear m0 m1 mf0 mf1
          have m0 := km2.cell 0
          have m1 := km2.cell 1
          have mf0 := km2.frozen 0
          have mf1 := km2.frozen 1
          simp at m0 m1
          have KS2 := Lib.hid ks2
          have KM2 := Lib.hid km2
          clear ks2 km2 hb2
          go_wp2_with (go_at_call 39; refine (costs_any _ _ _).mono ?_; rintro e w' ⟨rfl, rfl⟩)
          refine (rateN_any m A c h over under w2 h400 ((HA.out.below hbb2).mono hbb2.size) HD.out HW.out k1 k2 k3 k4).mono ?_
          rintro e w3 ⟨rfl, hb3⟩
          have hbb3 := hbb2.trans (hb3.mono hbb2.size)
          have ks3 := Blk.below KS2.out hb3 KS2.out.lt
          clear m0 m1 mf0 mf1
          have s0 := ks3.cell 0
          have s1 := ks3.cell 1
          have s2 := ks3.cell 2
          have sf0 := ks3.frozen 0
          have sf1 := ks3.frozen 1
          have sf2 := ks3.frozen 2
          simp at s0 s1 s2
          go_wp2_with fail
          have kf := ((ks3.set_ 0 (.int .i64 0)).set_ 1 (.int .i64 0)).set_ 2 (.int .i64 0)
          have z0 := kf.cell 0
          have z1 := kf.cell 1
          have z2 := kf.cell 2
          simp at z0 z1 z2
          have hbf := ((hbb3.setCell (p := ⟨w.heap.size + 1, 0, none⟩) (by simp) (.int .i64 0)).setCell (p := ⟨w.heap.size + 1, 1, none⟩) (by simp) (.int .i64 0)).setCell (p := ⟨w.heap.size + 1, 2, none⟩) (by simp) (.int .i64 0)
          refine bodyPost_ret (v := .tuple #[.agg #[(.int .i64 0), (.int .i64 0), (.int .i64 0)], .int .i64 4]) ?_ rfl ⟨by rw [HS.out]; rfl, hbf⟩
          simp [results, Try.results30, Try.f30, go_sem, z0, z1, z2]
        · obtain ⟨N, hN⟩ : ∃ N, N = (ratioD (rateN m h over under h.length).2.toNat (rateN m h over under h.length).1).1 := ⟨_, rfl⟩
          obtain ⟨D, hD⟩ : ∃ D, D = (ratioD (rateN m h over under h.length).2.toNat (rateN m h over under h.length).1).2 := ⟨_, rfl⟩
          have hs : rateD m h over under = ((((rateN m h over under h.length).1 : Int), N, D), 0) := by simp [rateD, HCZ.out, hw, hk, hz, hN, hD]
          have HS := Lib.hid hs
          have tz : (((rateN m h over under h.length).1 : Int) == 0) = false := by simp; exact hz
          obtain ⟨r1, r2, r3⟩ := rateN_bd hm2 HD.out k1 k2 k3 k4 h.length (Nat.le_refl _)
          have HR := Lib.hid (show ∀ W, Calls Try.prog 80 #[.int .i64 (rateN m h over under h.length).2, .int .i64 ((rateN m h over under h.length).1 : Int)] W fun e w' => e = .returned (.agg #[.int .i64 N, .int .i64 D]) ∧ Below W.heap.size W w' from fun W => by
            have h0 := ratio_any (rateN m h over under h.length).2.toNat (rateN m h over under h.length).1 W (by omega) (by omega) (by omega)
            rw [Int.toNat_of_nonneg r2] at h0
            rw [hN, hD]
            exact h0)
          clear hs hz hN hD
          go_enter Try.func30, Try.ntmps30
          go_wp2_with fail
          rw [← HW0.out]
          refine HC.out.mono ?_
          rintro e w1 ⟨rfl, hb1⟩
          have hbb1 := HB0.out.trans (hb1.mono HB0.out.size)
          have ks1 := Blk.below HKS.out hb1 HKS.out.lt
          have km1 := Blk.below HKM.out hb1 HKM.out.lt
          have m0 := km1.cell 0
          have m1 := km1.cell 1
          have mf0 := km1.frozen 0
          have mf1 := km1.frozen 1
          simp at m0 m1
          have KS1 := Lib.hid ks1
          have KM1 := Lib.hid km1
          clear ks1 km1 hb1
          go_wp2_with fail
          refine (wrongM_any m w1).mono ?_
          rintro e w2 ⟨rfl, hb2⟩
          have hbb2 := hbb1.trans (hb2.mono hbb1.size)
          have ks2 := Blk.below KS1.out hb2 KS1.out.lt
          have km2 := Blk.below KM1.out hb2 KM1.out.lt
          clear m0 m1 mf0 mf1
          have m0 := km2.cell 0
          have m1 := km2.cell 1
          have mf0 := km2.frozen 0
          have mf1 := km2.frozen 1
          simp at m0 m1
          have KS2 := Lib.hid ks2
          have KM2 := Lib.hid km2
          clear ks2 km2 hb2
          go_wp2_with (go_at_call 39; refine (costs_any _ _ _).mono ?_; rintro e w' ⟨rfl, rfl⟩)
          refine (rateN_any m A c h over under w2 h400 ((HA.out.below hbb2).mono hbb2.size) HD.out HW.out k1 k2 k3 k4).mono ?_
          rintro e w3 ⟨rfl, hb3⟩
          have hbb3 := hbb2.trans (hb3.mono hbb2.size)
          have ks3 := Blk.below KS2.out hb3 KS2.out.lt
          clear m0 m1 mf0 mf1
          have KS3 := Lib.hid ks3
          clear ks3 hb3
          go_wp2_with fail
          refine (HR.out w3).mono ?_
          rintro e w4 ⟨rfl, hb4⟩
          have hbb4 := hbb3.trans (hb4.mono hbb3.size)
          have ks4 := Blk.below KS3.out hb4 KS3.out.lt
          have s0 := ks4.cell 0
          have s1 := ks4.cell 1
          have s2 := ks4.cell 2
          have sf0 := ks4.frozen 0
          have sf1 := ks4.frozen 1
          have sf2 := ks4.frozen 2
          simp at s0 s1 s2
          go_wp2_with fail
          have kf := ((ks4.set_ 0 (.int .i64 ((rateN m h over under h.length).1 : Nat))).set_ 1 (.int .i64 N)).set_ 2 (.int .i64 D)
          have z0 := kf.cell 0
          have z1 := kf.cell 1
          have z2 := kf.cell 2
          simp at z0 z1 z2
          have hbf := ((hbb4.setCell (p := ⟨w.heap.size + 1, 0, none⟩) (by simp) (.int .i64 ((rateN m h over under h.length).1 : Nat))).setCell (p := ⟨w.heap.size + 1, 1, none⟩) (by simp) (.int .i64 N)).setCell (p := ⟨w.heap.size + 1, 2, none⟩) (by simp) (.int .i64 D)
          refine bodyPost_ret (v := .tuple #[.agg #[(.int .i64 ((rateN m h over under h.length).1 : Nat)), (.int .i64 N), (.int .i64 D)], .int .i64 0]) ?_ rfl ⟨by rw [HS.out]; rfl, hbf⟩
          simp [results, Try.results30, Try.f30, go_sem, z0, z1, z2]
    · have hs : rateD m h over under = ((0, 0, 0), 1) := by simp [rateD, HCZ.out, hw]
      have HS := Lib.hid hs
      clear hs
      go_enter Try.func30, Try.ntmps30
      go_wp2_with fail
      rw [← HW0.out]
      refine HC.out.mono ?_
      rintro e w1 ⟨rfl, hb1⟩
      have hbb1 := HB0.out.trans (hb1.mono HB0.out.size)
      have ks1 := Blk.below HKS.out hb1 HKS.out.lt
      have km1 := Blk.below HKM.out hb1 HKM.out.lt
      have m0 := km1.cell 0
      have m1 := km1.cell 1
      have mf0 := km1.frozen 0
      have mf1 := km1.frozen 1
      simp at m0 m1
      have KS1 := Lib.hid ks1
      have KM1 := Lib.hid km1
      clear ks1 km1 hb1
      go_wp2_with fail
      refine (wrongM_any m w1).mono ?_
      rintro e w2 ⟨rfl, hb2⟩
      have hbb2 := hbb1.trans (hb2.mono hbb1.size)
      have ks2 := Blk.below KS1.out hb2 KS1.out.lt
      have km2 := Blk.below KM1.out hb2 KM1.out.lt
      have s0 := ks2.cell 0
      have s1 := ks2.cell 1
      have s2 := ks2.cell 2
      have sf0 := ks2.frozen 0
      have sf1 := ks2.frozen 1
      have sf2 := ks2.frozen 2
      simp at s0 s1 s2
      clear m0 m1 mf0 mf1
      go_wp2_with fail
      have kf := ((ks2.set_ 0 (.int .i64 0)).set_ 1 (.int .i64 0)).set_ 2 (.int .i64 0)
      have z0 := kf.cell 0
      have z1 := kf.cell 1
      have z2 := kf.cell 2
      simp at z0 z1 z2
      have hbf := ((hbb2.setCell (p := ⟨w.heap.size + 1, 0, none⟩) (by simp) (.int .i64 0)).setCell (p := ⟨w.heap.size + 1, 1, none⟩) (by simp) (.int .i64 0)).setCell (p := ⟨w.heap.size + 1, 2, none⟩) (by simp) (.int .i64 0)
      refine bodyPost_ret (v := .tuple #[.agg #[(.int .i64 0), (.int .i64 0), (.int .i64 0)], .int .i64 1]) ?_ rfl ⟨by rw [HS.out]; rfl, hbf⟩
      simp [results, Try.results30, Try.f30, go_sem, z0, z1, z2]
  · have ht : (checkH h == 0) = false := by simpa using hc
    have hs : rateD m h over under = ((0, 0, 0), checkH h) := by simp [rateD, hc]
    have HS := Lib.hid hs
    clear hs hc hw0
    go_enter Try.func30, Try.ntmps30
    go_wp2_with fail
    rw [← HW0.out]
    refine HC.out.mono ?_
    rintro e w1 ⟨rfl, hb1⟩
    have hbb1 := HB0.out.trans (hb1.mono HB0.out.size)
    have ks1 := Blk.below HKS.out hb1 HKS.out.lt
    have km1 := Blk.below HKM.out hb1 HKM.out.lt
    have s0 := ks1.cell 0
    have s1 := ks1.cell 1
    have s2 := ks1.cell 2
    have sf0 := ks1.frozen 0
    have sf1 := ks1.frozen 1
    have sf2 := ks1.frozen 2
    simp at s0 s1 s2
    go_wp2_with fail
    have kf := ((ks1.set_ 0 (.int .i64 0)).set_ 1 (.int .i64 0)).set_ 2 (.int .i64 0)
    have z0 := kf.cell 0
    have z1 := kf.cell 1
    have z2 := kf.cell 2
    simp at z0 z1 z2
    have hbf := ((hbb1.setCell (p := ⟨w.heap.size + 1, 0, none⟩) (by simp) (.int .i64 0)).setCell (p := ⟨w.heap.size + 1, 1, none⟩) (by simp) (.int .i64 0)).setCell (p := ⟨w.heap.size + 1, 2, none⟩) (by simp) (.int .i64 0)
    refine bodyPost_ret (v := .tuple #[.agg #[(.int .i64 0), (.int .i64 0), (.int .i64 0)], .int .i64 (checkH h)]) ?_ rfl ⟨by rw [HS.out]; rfl, hbf⟩
    simp [results, Try.results30, Try.f30, go_sem, z0, z1, z2]
end Go.Proofs.Ytgopdfbmddkpfaa
