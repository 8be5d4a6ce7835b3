/- Contract of Proves; conditions: a right title, a table of its size, with numbers in their bounds. -/
import Derived.Test.YtokdleanpkkdpaaT3
import Derived.Test.YtokdleanpkkdpaaA9
import Derived.Test.YtokdleanpkkdpaaSpecG
set_option linter.unusedSimpArgs false
set_option linter.unusedVariables false
namespace Go.Proofs.Ytokdleanpkkdpaa
open Go.RowKit Go.Fh Go.Ed
theorem badTabC_any (v : Int) (w : World) :
    Calls Try.prog 85 #[.int .i64 v] w fun e w' => e = .returned (.bool (!inB v (-1) 86400)) ∧ w = w' := by
  cases h : inB v (-1) 86400
  all_goals
    go_enter Try.func85, Try.ntmps85
    go_wp2_with (go_at_call 65; refine (within_any _ _ _ _).mono ?_; rintro e w' ⟨rfl, rfl⟩)
    go_ret
    exact ⟨ret_bool (by simp [h]), rfl⟩

set_option maxHeartbeats 1000000 in
theorem badTabI_any (A : Option Addr) (c : Nat) (l : List Int) (w : World) (hl : l.length ≤ 9223372036854775807) (hA : Sl encInt 1 w w.heap.size A l) :
    Calls Try.prog 122 #[.slice A l.length c, .func (.func 85) #[] #[]] w fun e w' => e = .returned (.int .i64 (findI (fun v => !inB v (-1) 86400) l)) ∧ Below w.heap.size w w' := by
  have HA := Lib.hid hA
  clear hA
  go_enter Try.func122, Try.ntmps122
  go_wp2
  go_loopw [8] (fun i wr => ∃ k : Nat, k ≤ l.length ∧ i = .int .i64 k ∧ Hid (∀ x ∈ l.take k, (!inB x (-1) 86400) = false) ∧ Below w.heap.size w wr) (fun i _ => l.length - (intOf i).toNat)
  case atStart => exact ⟨0, Nat.zero_le _, rfl, by simp [Hid], Below.refl _ _⟩
  case round =>
    obtain ⟨k, hk, rfl, HN, hB⟩ := hrel
    by_cases hlt : k < l.length
    · obtain ⟨b, off, rfl, hb, c0⟩ := (HA.out.below hB).at1 hlt
      cases hw : (!inB l[k] (-1) 86400)
      · have HW := Lib.hid hw
        go_wp2_with (go_at_call 85; refine (badTabC_any _ _).mono ?_; rintro e w' ⟨rfl, rfl⟩)
        go_roundw
        case rel =>
          refine ⟨k + 1, by omega, by go_num, ?_, hB⟩
          intro x hx
          rw [List.take_succ_eq_append_getElem hlt, List.mem_append] at hx
          rcases hx with hx | hx
          · exact HN.out x hx
          · simp at hx; subst hx; exact HW.out
        case measure => simp [intOf]; omega
      · have HF := Lib.hid (findI_hit (p := fun v => !inB v (-1) 86400) hlt HN.out hw)
        go_wp2_with (go_at_call 85; refine (badTabC_any _ _).mono ?_; rintro e w' ⟨rfl, rfl⟩)
        go_ret
        exact ⟨ret_int HF.out.symm, hB⟩
    · go_wp2
      go_ret
      exact ⟨ret_int (findI_miss (fun x hx => HN.out x (by rw [List.take_of_length_le (by omega)]; exact hx))).symm, hB⟩

theorem badTab_any (A : Option Addr) (c : Nat) (l : List Int) (w : World) (hl : l.length ≤ 9223372036854775807) (hA : Sl encInt 1 w w.heap.size A l) :
    Calls Try.prog 84 #[.slice A l.length c, .func (.func 85) #[] #[]] w fun e w' => e = .returned (.bool (l.any fun v => !inB v (-1) 86400)) ∧ Below w.heap.size w w' := by
  have hf := findI_any (fun v => !inB v (-1) 86400) l
  have HF := Lib.hid hf
  clear hf
  go_enter Try.func84, Try.ntmps84
  go_wp2_with (go_at_call 122; refine (badTabI_any _ _ _ _ hl hA).mono ?_; rintro e w' ⟨rfl, hb⟩)
  go_ret
  exact ⟨ret_bool HF.out, hb⟩


/-- a table's numbers by set and edition -/
def tabI (n : Nat) (T : List Int) (S e : Nat) : Int := T.getD (S * n + e) (-1)
theorem tabI_get {n S e : Nat} {T : List Int} (hT : T.length = n * 2 ^ n) (hS : S < 2 ^ n) (he : e < n) : S * n + e < T.length ∧ T.getD (S * n + e) (-1) = T[S * n + e]'(by rw [hT]; exact at_lt hS he) := by
  have := at_lt hS he
  exact ⟨by omega, by simp [show S * n + e < T.length by omega]⟩
set_option maxRecDepth 20000 in
set_option maxHeartbeats 4000000 in
theorem has_any (t : TitD) (x : TA) (k : Wk) (B : Nat) (hc : ChkOk t) (n m : Nat) (hn : n = k.es.length) (hmE : m = n * 2 ^ n) (gN gP gO c : Nat) (A : Option Addr) (T : List Int) (hTl : T.length = m) (S e : Nat) (s : SloD) (W : World) (hW : WorkAt W B t x k)
    (kN : Blk W gN 3 #[.int .i64 n]) (kP : Blk W gP 124 #[.pointer (some ⟨k.g, 0, none⟩)]) (kO : Blk W gO 22 #[.slice A m c]) (hT : Sl encInt 1 W W.heap.size A T) (hS : S < 2 ^ n) (he : e < n) (hse : s.edition = (e : Int)) :
    Calls Try.prog 86 #[.int .i64 S, .agg #[.int .i64 e, .int .i64 s.plates, .int .i64 s.beg, .int .i64 s.fin], .pointer (some ⟨gO, 0, none⟩), .pointer (some ⟨gN, 0, none⟩), .pointer (some ⟨gP, 0, none⟩)] W fun r W' => r = .returned (.bool (hasB (edsR t) (tabI n T S e) s)) ∧ Below W.heap.size W W' := by
  have hn7 : n ≤ 7 := by rw [hn, hW.len, edsR_len]; exact hc.n1
  have hp := pow_le128 hn7
  have hm : m ≤ 1000 := by rw [hmE]; exact Nat.le_trans (Nat.mul_le_mul hn7 hp) (by omega)
  have halt := at_lt hS he
  rw [← hmE] at halt
  obtain ⟨a, ha⟩ : ∃ a, a = S * n + e := ⟨_, rfl⟩
  have haI : (S : Int) * (n : Int) + (e : Int) = (a : Int) := by rw [ha]; push_cast; rfl
  have hSn : S * n ≤ 1000 := by omega
  have hsn0 : (0 : Int) ≤ (S : Int) * (n : Int) := by rw [← Int.natCast_mul]; omega
  have hsn1 : (S : Int) * (n : Int) ≤ 1000 := by rw [← Int.natCast_mul]; omega
  obtain ⟨w1, hw1⟩ : ∃ w, w = W.alloc (.cells #[.int .i64 e, .int .i64 s.plates, .int .i64 s.beg, .int .i64 s.fin] 63) := ⟨_, rfl⟩
  obtain ⟨gX, hgX⟩ : ∃ g, g = W.heap.size := ⟨_, rfl⟩
  have hb1 : Below W.heap.size W w1 := by rw [hw1]; exact (Below.refl _ _).alloc (Nat.le_refl _) _
  have kX : Blk w1 gX 63 #[.int .i64 e, .int .i64 s.plates, .int .i64 s.beg, .int .i64 s.fin] := by rw [hw1, hgX]; exact Blk.new W 63 _
  obtain ⟨old, hold⟩ : ∃ v, v = tabI n T S e := ⟨_, rfl⟩
  have haT : a < T.length := by omega
  obtain ⟨tb, tf, rfl, htb, d0⟩ := hT.at1 haT
  have hTa : T[a] = old := by
    rw [hold]; unfold tabI
    rw [← ha]; simp [haT]
  rw [hTa] at d0
  rw [← hold]
  have FW := Lib.hid (show ∀ W', Below w1.heap.size w1 W' → W'.cell? ⟨gX, 0, none⟩ = some (.int .i64 e) ∧ W'.cell? ⟨gX, 1, none⟩ = some (.int .i64 s.plates) ∧ W'.cell? ⟨gX, 2, none⟩ = some (.int .i64 s.beg) ∧ W'.cell? ⟨gX, 3, none⟩ = some (.int .i64 s.fin) from fun W' hb' => by
    have kx := kX.below hb' kX.lt
    exact ⟨by rw [kx.cell]; rfl, by rw [kx.cell]; rfl, by rw [kx.cell]; rfl, by rw [kx.cell]; rfl⟩)
  have LT := Lib.hid (show Calls Try.prog 80 #[.pointer (some ⟨k.g, 0, none⟩), .agg #[.int .i64 e, .int .i64 s.plates, .int .i64 s.beg, .int .i64 s.fin]] w1 fun r w' => r = .returned (.bool (lateB (edsR t) s)) ∧ Below w1.heap.size w1 w' from by
    have hk := hW.below hb1
    have := late_any t x k.es k.E k.C k.cE k.cC k.g (allB t) e s.plates s.beg s.fin w1 (by omega) (by omega) hk.hk hk.hE
    rw [show decide (k.es[e].1.due < s.fin) = lateB (edsR t) s by
      unfold lateB
      rw [hse, Int.toNat_natCast, ← hk.eds]
      simp [show e < k.es.length by omega]] at this
    exact this)
  have n0 := (hb1.cell (p := ⟨gN, 0, none⟩) kN.lt).trans (kN.cell 0)
  have p0 := (hb1.cell (p := ⟨gP, 0, none⟩) kP.lt).trans (kP.cell 0)
  have o0 := (hb1.cell (p := ⟨gO, 0, none⟩) kO.lt).trans (kO.cell 0)
  have d1 := (hb1.cell (p := ⟨tb, tf + a, none⟩) htb).trans d0
  obtain ⟨e0, e1, e2, e3⟩ := FW.out w1 (Below.refl _ _)
  simp at n0 p0 o0
  have HW1 := Lib.hid (And.intro hw1 hgX)
  have HBb := Lib.hid hb1
  have a0 : (0 : Int) ≤ (a : Int) := by omega
  have a1 : (a : Int) < (m : Int) := by omega
  have HAI := Lib.hid haI
  have am : a < m := by omega
  obtain ⟨hv, hhv⟩ : ∃ b, b = hasB (edsR t) old s := ⟨_, rfl⟩
  rw [← hhv]
  have HHV := Lib.hid hhv
  have aw : IntKind.i64.wrap ((S : Int) * (n : Int) + (e : Int)) = (a : Int) := by rw [haI, IntKind.wrap_i64]; omega
  clear hw1 hgX hb1 kX hW kN kP kO hold hmE ha hm hn hp halt hse hSn hT d0 hTa haT hTl hhv
  go_enter Try.func86, Try.ntmps86
  go_upto_region 1 with fail
  rw [← HW1.out.1, ← HW1.out.2]
  cases hl : lateB (edsR t) s
  · rw [hl] at LT
    by_cases h1 : 0 ≤ old
    · have t1 : decide (0 ≤ old) = true := by simpa using h1
      by_cases h2 : old ≤ s.fin
      · have t2 : decide (old ≤ s.fin) = true := by simpa using h2
        have hq : hv = true := by rw [HHV.out]; unfold hasB; rw [hl, t1, t2]; rfl
        have HQ := Lib.hid hq
        clear hq h1 h2 hl
        go_wp2_with (go_at_call 80; refine LT.out.mono ?_; rintro r w4 ⟨rfl, hb4⟩; have HB4 := Lib.hid hb4; obtain ⟨x0, x1, x2, x3⟩ := FW.out w4 HB4.out; clear hb4)
        go_ret
        exact ⟨ret_bool HQ.out.symm, HBb.out.trans (HB4.out.mono HBb.out.size)⟩
      · have t2 : decide (old ≤ s.fin) = false := by simpa using h2
        have hq : hv = false := by rw [HHV.out]; unfold hasB; rw [hl, t1, t2]; rfl
        have HQ := Lib.hid hq
        clear hq h1 h2 hl
        go_wp2_with (go_at_call 80; refine LT.out.mono ?_; rintro r w4 ⟨rfl, hb4⟩; have HB4 := Lib.hid hb4; obtain ⟨x0, x1, x2, x3⟩ := FW.out w4 HB4.out; clear hb4)
        go_ret
        exact ⟨ret_bool HQ.out.symm, HBb.out.trans (HB4.out.mono HBb.out.size)⟩
    · have t1 : decide (0 ≤ old) = false := by simpa using h1
      have hq : hv = false := by rw [HHV.out]; unfold hasB; rw [hl, t1]; rfl
      have HQ := Lib.hid hq
      clear hq h1 hl
      go_wp2_with (go_at_call 80; refine LT.out.mono ?_; rintro r w4 ⟨rfl, hb4⟩; have HB4 := Lib.hid hb4; obtain ⟨x0, x1, x2, x3⟩ := FW.out w4 HB4.out; clear hb4)
      go_ret
      exact ⟨ret_bool HQ.out.symm, HBb.out.trans (HB4.out.mono HBb.out.size)⟩
  · rw [hl] at LT
    have hq : hv = true := by rw [HHV.out]; unfold hasB; rw [hl]; rfl
    have HQ := Lib.hid hq
    clear hq hl
    go_wp2_with (go_at_call 80; refine LT.out.mono ?_; rintro r w4 ⟨rfl, hb4⟩; have HB4 := Lib.hid hb4; obtain ⟨x0, x1, x2, x3⟩ := FW.out w4 HB4.out; clear hb4)
    go_ret
    exact ⟨ret_bool HQ.out.symm, HBb.out.trans (HB4.out.mono HBb.out.size)⟩
end Go.Proofs.Ytokdleanpkkdpaa
namespace Go.Ed
open Go.RowKit Go.Proofs.Ytokdleanpkkdpaa
/-- what a table must say of a set and its last edition -/
def RowOk (t : TitD) (n : Nat) (T : List Int) (S last c : Nat) : Prop := bitB S last = true → 0 ≤ tabI n T S last → ∀ e, e < c → bitB S e = false → hasB (edsR t) (tabI n T (S + 2 ^ e) e) (nextS t (edsR t) e last (tabI n T S last)) = true
end Go.Ed
namespace Go.Proofs.Ytokdleanpkkdpaa
open Go.RowKit Go.Fh Go.Ed
theorem balT {w W : World} (h : Below w.heap.size w W) (o : Obj) : Below w.heap.size w (W.alloc o) := h.alloc h.size o
set_option maxRecDepth 100000 in
set_option maxHeartbeats 8000000 in
theorem Proves_ok (t : TitD) (x : TA) (zs : List ZonM) (w : World) (hs : Sizes t) (hT : TitAt w w.heap.size t x zs) (A : Option Addr) (c : Nat) (T : List Int) (n m : Nat) (hA : Sl encInt 1 w w.heap.size A T) (hc : checkT t = 0) (hn : n = (edsR t).length) (hmE : m = n * 2 ^ n) (hTl : T.length = m) (hTb : ∀ v ∈ T, -1 ≤ v ∧ v ≤ 86400) :
    Calls Try.prog 36 #[.agg (titV t x), .slice A m c] w fun e w' => ∃ b : Bool, e = .returned (.tuple #[.bool b, .int .i64 0]) ∧ (b = true ↔ ProvOk t (edsR t) (tabI n T)) ∧ Below w.heap.size w w' := by
  have hch := chk_ok hc
  have hn1 : 1 ≤ n := by rw [hn, edsR_len]; exact hch.n0
  have hn7 : n ≤ 7 := by rw [hn, edsR_len]; exact hch.n1
  have hp := pow_le128 hn7
  have hm1 : 1 ≤ m := by rw [hmE]; exact Nat.mul_pos hn1 (Nat.two_pow_pos n)
  have hm2 : m ≤ 1000 := by rw [hmE]; exact Nat.le_trans (Nat.mul_le_mul hn7 hp) (by omega)
  obtain ⟨P, hP⟩ : ∃ P, P = 2 ^ n := ⟨_, rfl⟩
  have hP2 : 2 ≤ P := by rw [hP]; exact Nat.pow_le_pow_right (n := 2) (by omega) hn1
  have hP3 : P ≤ 128 := by rw [hP]; exact hp
  obtain ⟨F, hF⟩ : ∃ F, F = P - 1 := ⟨_, rfl⟩
  obtain ⟨w1, hw1⟩ : ∃ W, W = (w.alloc (.cells (titV t x) 26)).alloc (.cells #[.slice A m c] 22) := ⟨_, rfl⟩
  have hb1 : Below w.heap.size w w1 := by rw [hw1]; exact balT (balT (Below.refl _ _) _) _
  obtain ⟨gT, hgT⟩ : ∃ g, g = w.heap.size := ⟨_, rfl⟩
  obtain ⟨gO, hgO⟩ : ∃ g, g = w.heap.size + 1 := ⟨_, rfl⟩
  have kT : Blk w1 gT 26 (titV t x) := by rw [hw1, hgT]; exact (Blk.new _ _ _).alloc _
  have kO : Blk w1 gO 22 #[.slice A m c] := by rw [hw1, hgO]; exact blkAt (by simp) 22 _
  have HCK := Lib.hid (open_any t x zs w1 hs ((hT.below hb1).mono hb1.size) hc)
  have r0 := kT.cell 0
  have r1 := kT.cell 1
  have r2 := kT.cell 2
  have r3 := kT.cell 3
  have r4 := kT.cell 4
  have r5 := kT.cell 5
  have r6 := kT.cell 6
  have r7 := kT.cell 7
  simp [titV] at r0 r1 r2 r3 r4 r5 r6 r7
  have HB1 := Lib.hid hb1
  have HW1 := Lib.hid (And.intro hw1 (And.intro hgT hgO))
  have KO := Lib.hid kO
  have HA := Lib.hid ((hA.below hb1).mono hb1.size)
  have HCH := Lib.hid hch
  have HN := Lib.hid (And.intro hn (And.intro hmE (And.intro hP hF)))
  have HTL := Lib.hid hTl
  have HTB := Lib.hid hTb
  have sh1 : IntKind.i64.wrap ((n : Int) * 2 ^ n) = (m : Int) := by
    have : (n : Int) * 2 ^ n = (m : Int) := by rw [hmE]; push_cast; rfl
    rw [this, IntKind.wrap_i64]; omega
  have sh2 : IntKind.i64.wrap ((2 : Int) ^ n) = (P : Int) := shl_one hn7 hP
  clear hb1 hw1 hgT hgO kT kO hT hs hc hA hch hn hmE hP hTl hTb hp hF
  unfold titV at *
  go_enter Try.func36, Try.ntmps36
  go_upto_region 1 with fail
  rw [← HW1.out.1, ← HW1.out.2.2, ← HW1.out.2.1]
  go_upto_region 4 with (go_at_call 61; refine HCK.out.mono ?_; rintro e w2 ⟨k, rfl, hk, hb2⟩; have HK := Lib.hid hk; have HB2 := Lib.hid hb2; clear hb2 hk)
  clear r0 r1 r2 r3 r4 r5 r6 r7
  obtain ⟨gP, hgP⟩ : ∃ g, g = w2.heap.size := ⟨_, rfl⟩
  obtain ⟨w3, hw3⟩ : ∃ W, W = w2.alloc (.cells #[.pointer (some ⟨k.g, 0, none⟩)] 124) := ⟨_, rfl⟩
  rw [← hw3, ← hgP]
  have hb23 : Below w2.heap.size w2 w3 := by rw [hw3]; exact balT (Below.refl _ _) _
  have kP3 : Blk w3 gP 124 #[.pointer (some ⟨k.g, 0, none⟩)] := by rw [hw3, hgP]; exact blkAt rfl 124 _
  have hk3 := HK.out.below hb23
  have hkn : k.es.length = n := by rw [HN.out.1, HK.out.len]
  have y8 := hk3.hk.cell 8
  simp [workV] at y8
  rw [hkn] at y8
  have p0 := kP3.cell 0
  simp at p0
  have hlk := hk3.hk.lt
  have hlP := kP3.lt
  have HKN := Lib.hid hkn
  clear hw3 hgP hkn
  go_upto_region 5 with fail
  have hkn := HKN.out
  obtain ⟨gN, hgN⟩ : ∃ g, g = w3.heap.size := ⟨_, rfl⟩
  obtain ⟨w4, hw4⟩ : ∃ W, W = w3.alloc (.cells #[.int .i64 n] 3) := ⟨_, rfl⟩
  rw [← hw4, ← hgN]
  have hb34 : Below w3.heap.size w3 w4 := by rw [hw4]; exact balT (Below.refl _ _) _
  have hb14 : Below w1.heap.size w1 w4 := HB2.out.trans ((hb23.trans (hb34.mono hb23.size)).mono HB2.out.size)
  have hk4 := hk3.below hb34
  have kP : Blk w4 gP 124 #[.pointer (some ⟨k.g, 0, none⟩)] := kP3.below hb34 kP3.lt
  have kN : Blk w4 gN 3 #[.int .i64 n] := by rw [hw4, hgN]; exact blkAt rfl 3 _
  have kO : Blk w4 gO 22 #[.slice A m c] := KO.out.below hb14 KO.out.lt
  have sA := (HA.out.below hb14).mono hb14.size
  obtain ⟨tb, tf, rfl, htb, -⟩ := sA.at1 (k := 0) (by rw [HTL.out]; omega)
  have FI := Lib.hid (show ∀ (e : Nat), e < n → ∀ W', Below w4.heap.size w4 W' → Calls Try.prog 87 #[.pointer (some ⟨k.g, 0, none⟩), .int .i64 e] W' fun r w' => r = .returned (.agg #[.int .i64 e, .int .i64 (firstS t (edsR t) e).plates, .int .i64 (firstS t (edsR t) e).beg, .int .i64 (firstS t (edsR t) e).fin]) ∧ Below W'.heap.size W' w' from fun e he W' hb => by
    have := first_any t HCH.out.ok x k.es k.E k.C k.cE k.cC k.g e W' (by omega) (by omega) (edsR_ok HCH.out (by rw [← hk4.eds]; exact List.mem_map.2 ⟨_, List.getElem_mem (by omega), rfl⟩)) (hk4.below hb).hk (hk4.below hb).hE
    rw [hk4.eds] at this
    exact this)
  have NX := Lib.hid (show ∀ (e q : Nat) (fin : Int), e < n → q < n → 0 ≤ fin → fin ≤ 86400 → ∀ W', Below w4.heap.size w4 W' → Calls Try.prog 88 #[.pointer (some ⟨k.g, 0, none⟩), .int .i64 e, .int .i64 q, .int .i64 fin] W' fun r w' => r = .returned (.agg #[.int .i64 e, .int .i64 (nextS t (edsR t) e q fin).plates, .int .i64 (nextS t (edsR t) e q fin).beg, .int .i64 (nextS t (edsR t) e q fin).fin]) ∧ Below W'.heap.size W' w' from fun e q fin he hq h0 h1 W' hb => by
    have := next_any t HCH.out.ok x k.es k.E k.C k.cE k.cC k.g k.rows e q fin W' (by omega) (by omega) (by omega) (edsR_ok HCH.out (by rw [← hk4.eds]; exact List.mem_map.2 ⟨_, List.getElem_mem (by omega), rfl⟩)) h0 (by omega) (hk4.below hb).hk (hk4.below hb).hE (hk4.below hb).hrl (hk4.below hb).hC (hk4.below hb).hR
    rw [hk4.eds] at this
    exact this)
  have HAS := Lib.hid (show ∀ (S e : Nat) (s : SloD), S < 2 ^ n → e < n → s.edition = (e : Int) → ∀ W', Below w4.heap.size w4 W' → Calls Try.prog 86 #[.int .i64 S, .agg #[.int .i64 e, .int .i64 s.plates, .int .i64 s.beg, .int .i64 s.fin], .pointer (some ⟨gO, 0, none⟩), .pointer (some ⟨gN, 0, none⟩), .pointer (some ⟨gP, 0, none⟩)] W' fun r w' => r = .returned (.bool (hasB (edsR t) (tabI n T S e) s)) ∧ Below W'.heap.size W' w' from fun S e s hS he hse W' hb =>
    has_any t x k w1.heap.size HCH.out n m hkn.symm HN.out.2.1 gN gP gO c (some ⟨tb, tf, none⟩) T HTL.out S e s W' (hk4.below hb) (kN.below hb kN.lt) (kP.below hb kP.lt) (kO.below hb kO.lt) ((sA.below hb).mono hb.size) hS he hse)
  have BT := Lib.hid (show ∀ W', Below w4.heap.size w4 W' → Calls Try.prog 84 #[.slice (some ⟨tb, tf, none⟩) m c, .func (.func 85) #[] #[]] W' fun e w' => e = .returned (.bool false) ∧ Below W'.heap.size W' w' from fun W' hb => by
    have := badTab_any (some ⟨tb, tf, none⟩) c T W' (by rw [HTL.out]; omega) ((sA.below hb).mono hb.size)
    rw [HTL.out, show (T.any fun v => !inB v (-1) 86400) = false from by
      rw [List.any_eq_false]
      intro v hv
      simp [inB_iff.2 (HTB.out v hv)]] at this
    exact this)
  have ST := Lib.hid (show ∀ W', Below w4.heap.size w4 W' → W'.cell? ⟨gO, 0, none⟩ = some (.slice (some ⟨tb, tf, none⟩) m c) ∧ W'.cell? ⟨gN, 0, none⟩ = some (.int .i64 n) ∧ W'.cell? ⟨gP, 0, none⟩ = some (.pointer (some ⟨k.g, 0, none⟩)) from fun W' hb =>
    ⟨by rw [(kO.below hb kO.lt).cell]; rfl, by rw [(kN.below hb kN.lt).cell]; rfl, by rw [(kP.below hb kP.lt).cell]; rfl⟩)
  have EL := Lib.hid (show ∀ W', Below w4.heap.size w4 W' → ∀ S e : Nat, S < 2 ^ n → e < n → W'.cell? ⟨tb, tf + (S * n + e), none⟩ = some (.int .i64 (tabI n T S e)) from fun W' hb S e hS he => by
    have h1 := tabI_get (T := T) (by rw [HTL.out, HN.out.2.1]) hS he
    rw [Sl.at1' (sA.below hb) h1.1]
    unfold tabI
    exact congrArg (fun v => some (Value.int .i64 v)) h1.2.symm)
  have TBD := Lib.hid (show ∀ S e : Nat, S < 2 ^ n → e < n → -1 ≤ tabI n T S e ∧ tabI n T S e ≤ 86400 from fun S e hS he => by
    have h1 := tabI_get (T := T) (by rw [HTL.out, HN.out.2.1]) hS he
    unfold tabI
    rw [h1.2]
    exact HTB.out _ (List.getElem_mem _))
  have HBD := Lib.hid (HB1.out.trans (hb14.mono HB1.out.size))
  have HB4 := Lib.hid (Below.refl w4.heap.size w4)
  clear hw4 hgN hb23 hb34 hb14 kP3 hk3 hk4 kP kN kO sA htb y8 p0 hkn hlk hlP
  have SA2 := Lib.hid (show ∀ W', Below w4.heap.size w4 W' → W'.cell? ⟨gO, 0, none⟩ = some (.slice (some ⟨tb, tf, none⟩) m c) ∧ W'.cell? ⟨gN, 0, none⟩ = some (.int .i64 n) from fun W' hb => ⟨(ST.out W' hb).1, (ST.out W' hb).2.1⟩)
  obtain ⟨o0, n0, q0⟩ := ST.out w4 HB4.out
  go_region_held3 (fun W' => W'.cell? ⟨gO, 0, none⟩ = some (.slice (some ⟨tb, tf, none⟩) m c) ∧ W'.cell? ⟨gN, 0, none⟩ = some (.int .i64 n))
    ((refine SA2.out _ ?_; (repeat (first | exact HB4.out | exact HB5.out | refine Below.drew ?_)); done))
    (first
      | (go_at_call 84; refine (BT.out _ (by repeat (first | exact HB4.out | refine Below.drew ?_))).mono ?_; rintro e w5 ⟨rfl, hb5⟩; have HB5 := Lib.hid (show Below w4.heap.size w4 w5 from (HB4.out.drew).trans hb5); clear hb5))
  clear o0 n0 q0
  obtain ⟨o0, n0, q0⟩ := ST.out w5 HB5.out
  have hPF : (P : Int) - 1 = (F : Int) := by rw [HN.out.2.2.2]; omega
  have hFn : F < 2 ^ n := by rw [HN.out.2.2.2, ← HN.out.2.2.1]; omega
  have HFN := Lib.hid hFn
  have HPF := Lib.hid hPF
  have hF1 : 1 ≤ F ∧ F + 1 ≤ P ∧ P ≤ F + 1 := by rw [HN.out.2.2.2]; omega
  obtain ⟨hF1, hF2, hF3⟩ := hF1
  clear hFn hPF
  go_upto_region 9 with fail
  rw [HPF.out]
  go_wp2_with fail
  clear o0 n0 q0
  go_loopw [43] (fun i wr => ∃ j : Nat, j ≤ n ∧ i = .int .i64 j ∧ Hid (∀ e, e < j → tabI n T F e < 0 ∧ hasB (edsR t) (tabI n T (2 ^ e) e) (firstS t (edsR t) e) = true) ∧ Hid (Below w4.heap.size w4 wr)) (fun i _ => n - (intOf i).toNat)
  case atStart => exact ⟨0, Nat.zero_le _, rfl, Lib.hid (fun e he => absurd he (by omega)), HB5⟩
  case round =>
    obtain ⟨j, hj, rfl, HJ, HB⟩ := hrel
    by_cases hlt : j < n
    · skip
      have halt := at_lt HFN.out hlt
      rw [← HN.out.2.1] at halt
      obtain ⟨a, ha⟩ : ∃ a, a = F * n + j := ⟨_, rfl⟩
      have haI : (F : Int) * (n : Int) + (j : Int) = (a : Int) := by rw [ha]; push_cast; rfl
      have hSn : F * n ≤ 1000 := by omega
      have hsn0 : (0 : Int) ≤ (F : Int) * (n : Int) := by rw [← Int.natCast_mul]; omega
      have hsn1 : (F : Int) * (n : Int) ≤ 1000 := by rw [← Int.natCast_mul]; omega
      have mw : IntKind.i64.wrap ((F : Int) * (n : Int)) = (F : Int) * (n : Int) := by rw [IntKind.wrap_i64]; omega
      have aw : IntKind.i64.wrap ((F : Int) * (n : Int) + (j : Int)) = (a : Int) := by rw [haI, IntKind.wrap_i64]; omega
      have wa : IntKind.i64.wrap (a : Int) = (a : Int) := by rw [IntKind.wrap_i64]; omega
      obtain ⟨v, hv⟩ : ∃ v, v = tabI n T F j := ⟨_, rfl⟩
      have SE := Lib.hid (show ∀ W', Below w4.heap.size w4 W' → W'.cell? ⟨gO, 0, none⟩ = some (.slice (some ⟨tb, tf, none⟩) m c) ∧ W'.cell? ⟨gN, 0, none⟩ = some (.int .i64 n) ∧ W'.cell? ⟨gP, 0, none⟩ = some (.pointer (some ⟨k.g, 0, none⟩)) ∧ W'.cell? ⟨tb, tf + a, none⟩ = some (.int .i64 v) from fun W' hb => by
        refine ⟨(ST.out W' hb).1, (ST.out W' hb).2.1, (ST.out W' hb).2.2, ?_⟩
        rw [ha, hv]; exact EL.out W' hb F j HFN.out hlt)
      have a0 : (0 : Int) ≤ (a : Int) := by omega
      have a1 : (a : Int) < (m : Int) := by omega
      have HV := Lib.hid hv
      obtain ⟨o0, n0, q0, e0⟩ := SE.out wr HB.out
      clear ha hSn halt hv
      by_cases hx : 0 ≤ v
      · have t1 : decide (0 ≤ v) = true := by simpa using hx
        go_upto_region 12 with fail
        go_quiet (fail)
        go_wp2_with fail
        go_ret2
        exact ⟨false, rfl, ⟨fun h => (by cases h), fun h => absurd (h.full j (by rw [← HN.out.1]; exact hlt)) (by rw [← HN.out.1, show 2 ^ n - 1 = F by rw [HN.out.2.2.2, HN.out.2.2.1], ← HV.out]; omega)⟩, HBD.out.trans (Below.mono (by repeat (first | exact HB.out | refine below_drewN ?_ _ | refine Below.drew ?_)) HBD.out.size)⟩
      · have t1 : decide (0 ≤ v) = false := by simpa using hx
        obtain ⟨pj, hpj⟩ : ∃ p, p = 2 ^ j := ⟨_, rfl⟩
        have sj : IntKind.i64.wrap ((2 : Int) ^ j) = (pj : Int) := shl_one (by omega) hpj
        have hpjn : pj < 2 ^ n := by rw [hpj]; exact Nat.pow_lt_pow_right (by omega) hlt
        obtain ⟨s, hs⟩ : ∃ s, s = firstS t (edsR t) j := ⟨_, rfl⟩
        have hse : s.edition = (j : Int) := by rw [hs]; rfl
        have hF := FI.out j hlt
        rw [← hs] at hF
        have F87 := Lib.hid hF
        obtain ⟨bh, hbh⟩ : ∃ b, b = hasB (edsR t) (tabI n T pj j) s := ⟨_, rfl⟩
        have hH := HAS.out pj j s hpjn hlt hse
        rw [← hbh] at hH
        have H86 := Lib.hid hH
        have HBH := Lib.hid (show bh = hasB (edsR t) (tabI n T (2 ^ j) j) (firstS t (edsR t) j) by rw [hbh, hpj, hs])
        have HVN := Lib.hid (show tabI n T F j < 0 by rw [← HV.out]; omega)
        clear hpj hpjn hs hse hF hbh hH hx
        go_upto_region 12 with fail
        clear o0 n0 q0 e0
        cases bh
        all_goals
          go_region_held3 (fun W' => W'.cell? ⟨gO, 0, none⟩ = some (.slice (some ⟨tb, tf, none⟩) m c) ∧ W'.cell? ⟨gN, 0, none⟩ = some (.int .i64 n) ∧ W'.cell? ⟨gP, 0, none⟩ = some (.pointer (some ⟨k.g, 0, none⟩)) ∧ W'.cell? ⟨tb, tf + a, none⟩ = some (.int .i64 v))
            ((refine SE.out _ ?_; (repeat (first | exact HB.out | exact HB6.out | exact HB7.out | refine Below.drew ?_)); done))
            (first
              | (go_at_call 87; refine (F87.out _ (by repeat (first | exact HB.out | refine Below.drew ?_))).mono ?_; rintro r w6 ⟨rfl, hb6⟩; have HB6 := Lib.hid (show Below w4.heap.size w4 w6 from (HB.out.drew).trans (hb6.mono HB.out.size)); clear hb6)
              | (go_at_call 86; refine (H86.out _ (by repeat (first | exact HB6.out | refine Below.drew ?_))).mono ?_; rintro r w7 ⟨rfl, hb7⟩; have HB7 := Lib.hid (show Below w4.heap.size w4 w7 from HB6.out.trans (hb7.mono HB6.out.size)); clear hb7))
        · go_wp2_with fail
          go_ret2
          exact ⟨false, rfl, ⟨fun h => (by cases h), fun h => absurd (h.first j (by rw [← HN.out.1]; exact hlt)) (by rw [← HBH.out]; simp)⟩, HBD.out.trans (HB7.out.mono HBD.out.size)⟩
        · go_wp2_with fail
          go_roundw
          case rel => exact ⟨j + 1, by omega, by go_num, Lib.hid (fun e he => by
            by_cases q : e = j
            · subst q; exact ⟨HVN.out, HBH.out.symm⟩
            · exact HJ.out e (by omega)), HB7⟩
          case measure => simp [intOf]; omega
    · obtain rfl : n = j := by omega
      clear hlt hj
      obtain ⟨wo, rfl⟩ : ∃ W, W = wr := ⟨_, rfl⟩
      go_wp2_with fail
      go_loopw [12] (fun u wr => ∃ S : Nat, 1 ≤ S ∧ S ≤ F ∧ u = .int .i64 S ∧ Hid (∀ S', 1 ≤ S' → S' < S → ∀ last, last < n → RowOk t n T S' last n) ∧ Hid (Below w4.heap.size w4 wr)) (fun u _ => F - (intOf u).toNat)
      case atStart => exact ⟨1, Nat.le_refl _, by omega, rfl, Lib.hid (fun S' h1 h2 => by omega), HB⟩
      case round =>
        obtain ⟨S, hS1, hS2, rfl, HR, HBs⟩ := hrel
        by_cases hSlt : S < F
        · have hS128 : S < 128 := by omega
          have hSn2 : S < 2 ^ n := by rw [← HN.out.2.2.1]; omega
          have HSN := Lib.hid hSn2
          obtain ⟨wo2, rfl⟩ : ∃ W, W = wr := ⟨_, rfl⟩
          obtain ⟨o0, n0, q0⟩ := ST.out wo2 HBs.out
          clear hSn2
          go_wp2_with fail
          clear o0 n0 q0
          go_loopw [72] (fun u wr => ∃ q : Nat, q ≤ n ∧ u = .int .i64 q ∧ Hid (∀ last, last < q → RowOk t n T S last n) ∧ Hid (Below w4.heap.size w4 wr)) (fun u _ => n - (intOf u).toNat)
          case atStart => exact ⟨0, Nat.zero_le _, rfl, Lib.hid (fun last h => by omega), HBs⟩
          case round =>
            obtain ⟨q, hq, rfl, HQ, HB⟩ := hrel
            by_cases hqlt : q < n
            · have halt := at_lt HSN.out hqlt
              rw [← HN.out.2.1] at halt
              obtain ⟨a, ha⟩ : ∃ a, a = S * n + q := ⟨_, rfl⟩
              have haI : (S : Int) * (n : Int) + (q : Int) = (a : Int) := by rw [ha]; push_cast; rfl
              have hSn : S * n ≤ 1000 := by omega
              have hsn0 : (0 : Int) ≤ (S : Int) * (n : Int) := by rw [← Int.natCast_mul]; omega
              have hsn1 : (S : Int) * (n : Int) ≤ 1000 := by rw [← Int.natCast_mul]; omega
              have mw : IntKind.i64.wrap ((S : Int) * (n : Int)) = (S : Int) * (n : Int) := by rw [IntKind.wrap_i64]; omega
              have aw : IntKind.i64.wrap ((S : Int) * (n : Int) + (q : Int)) = (a : Int) := by rw [haI, IntKind.wrap_i64]; omega
              have wa : IntKind.i64.wrap (a : Int) = (a : Int) := by rw [IntKind.wrap_i64]; omega
              obtain ⟨v, hv⟩ : ∃ v, v = tabI n T S q := ⟨_, rfl⟩
              have hvb := TBD.out S q HSN.out hqlt
              rw [← hv] at hvb
              obtain ⟨hvb0, hvb1⟩ := hvb
              have SE := Lib.hid (show ∀ W', Below w4.heap.size w4 W' → W'.cell? ⟨gO, 0, none⟩ = some (.slice (some ⟨tb, tf, none⟩) m c) ∧ W'.cell? ⟨gN, 0, none⟩ = some (.int .i64 n) ∧ W'.cell? ⟨gP, 0, none⟩ = some (.pointer (some ⟨k.g, 0, none⟩)) ∧ W'.cell? ⟨tb, tf + a, none⟩ = some (.int .i64 v) from fun W' hb => by
                refine ⟨(ST.out W' hb).1, (ST.out W' hb).2.1, (ST.out W' hb).2.2, ?_⟩
                rw [ha, hv]; exact EL.out W' hb S q HSN.out hqlt)
              have a0 : (0 : Int) ≤ (a : Int) := by omega
              have a1 : (a : Int) < (m : Int) := by omega
              have HV := Lib.hid hv
              obtain ⟨o0, n0, q0, e0⟩ := SE.out wr HB.out
              clear ha hSn halt hv
              cases hb : bitB S q
              · have ba := bit_nil hS128 hb
                have HBQ := Lib.hid hb
                clear hb
                go_wp2_with fail
                go_roundw
                case rel => exact ⟨q + 1, by omega, by go_num, Lib.hid (fun last hl => by
                  by_cases e : last = q
                  · subst e; intro h; rw [HBQ.out] at h; cases h
                  · exact HQ.out last (by omega)), HB⟩
                case measure => simp [intOf]; omega
              · have ba := bit_one hS128 hb
                have HBQ := Lib.hid hb
                clear hb
                by_cases hx : v < 0
                · have t1 : decide (v < 0) = true := by simpa using hx
                  go_wp2_with fail
                  go_roundw
                  case rel => exact ⟨q + 1, by omega, by go_num, Lib.hid (fun last hl => by
                    by_cases e : last = q
                    · subst e; intro h h0; rw [← HV.out] at h0; omega
                    · exact HQ.out last (by omega)), HB⟩
                  case measure => simp [intOf]; omega
                · have t1 : decide (v < 0) = false := by simpa using hx
                  obtain ⟨wo3, rfl⟩ : ∃ W, W = wr := ⟨_, rfl⟩
                  go_wp2_with fail
                  clear o0 n0 q0 e0 ba t1
                  go_loopw [92] (fun u wr => ∃ i : Nat, i ≤ n ∧ u = .int .i64 i ∧ Hid (∀ e, e < i → bitB S e = false → hasB (edsR t) (tabI n T (S + 2 ^ e) e) (nextS t (edsR t) e q v) = true) ∧ Hid (Below w4.heap.size w4 wr)) (fun u _ => n - (intOf u).toNat)
                  case atStart => exact ⟨0, Nat.zero_le _, rfl, Lib.hid (fun e h => by omega), HB⟩
                  case round =>
                    obtain ⟨i, hi, rfl, HI, HBi⟩ := hrel
                    by_cases hilt : i < n
                    · cases hbi : bitB S i
                      · have ba := bit_nil hS128 hbi
                        obtain ⟨pi, hpi⟩ : ∃ p, p = 2 ^ i := ⟨_, rfl⟩
                        obtain ⟨Z, hZ⟩ : ∃ z, z = S + pi := ⟨_, rfl⟩
                        have si : IntKind.i64.wrap ((2 : Int) ^ i) = (pi : Int) := shl_one (by omega) hpi
                        have hor : bits .or .i64 (S : Int) (pi : Int) = (Z : Int) := by rw [hZ, hpi]; exact or_bit S hS128 i (by omega) hbi
                        obtain ⟨s, hs⟩ : ∃ s, s = nextS t (edsR t) i q v := ⟨_, rfl⟩
                        have hse : s.edition = (i : Int) := by rw [hs]; rfl
                        have hZn : Z < 2 ^ n := by
                          rw [hZ, hpi]
                          exact bit_room n (by omega) S hS128 i (by omega) HSN.out hilt hbi
                        have hF := NX.out i q v hilt hqlt (by omega) hvb1
                        rw [← hs] at hF
                        have F88 := Lib.hid hF
                        obtain ⟨bh, hbh⟩ : ∃ b, b = hasB (edsR t) (tabI n T Z i) s := ⟨_, rfl⟩
                        have hH := HAS.out Z i s hZn hilt hse
                        rw [← hbh] at hH
                        have H86 := Lib.hid hH
                        have HBH := Lib.hid (show bh = hasB (edsR t) (tabI n T (S + 2 ^ i) i) (nextS t (edsR t) i q v) by rw [hbh, hZ, hpi, hs])
                        have HBI := Lib.hid hbi
                        obtain ⟨o0, n0, q0, e0⟩ := SE.out wr HBi.out
                        clear hpi hZ hs hse hZn hF hbh hH hbi
                        go_upto_region 25 with fail
                        clear o0 n0 q0 e0
                        cases bh
                        all_goals
                          go_region_held3 (fun W' => W'.cell? ⟨gO, 0, none⟩ = some (.slice (some ⟨tb, tf, none⟩) m c) ∧ W'.cell? ⟨gN, 0, none⟩ = some (.int .i64 n) ∧ W'.cell? ⟨gP, 0, none⟩ = some (.pointer (some ⟨k.g, 0, none⟩)) ∧ W'.cell? ⟨tb, tf + a, none⟩ = some (.int .i64 v))
                            ((refine SE.out _ ?_; (repeat (first | exact HBi.out | exact HB6.out | exact HB7.out | refine Below.drew ?_)); done))
                            (first
                              | (go_at_call 88; refine (F88.out _ (by repeat (first | exact HBi.out | refine Below.drew ?_))).mono ?_; rintro r w6 ⟨rfl, hb6⟩; have HB6 := Lib.hid (show Below w4.heap.size w4 w6 from (HBi.out.drew).trans (hb6.mono HBi.out.size)); clear hb6)
                              | (go_at_call 86; refine (H86.out _ (by repeat (first | exact HB6.out | refine Below.drew ?_))).mono ?_; rintro r w7 ⟨rfl, hb7⟩; have HB7 := Lib.hid (show Below w4.heap.size w4 w7 from HB6.out.trans (hb7.mono HB6.out.size)); clear hb7))
                        · go_wp2_with fail
                          go_ret2
                          exact ⟨false, rfl, ⟨fun h => (by cases h), fun h => absurd (h.next S hS1 (by rw [← HN.out.1, ← HN.out.2.2.1]; omega) q (by rw [← HN.out.1]; exact hqlt) HBQ.out (by rw [← HV.out]; omega) i (by rw [← HN.out.1]; exact hilt) HBI.out) (by rw [← HV.out, ← HBH.out]; simp)⟩, HBD.out.trans (HB7.out.mono HBD.out.size)⟩
                        · go_wp2_with fail
                          go_roundw
                          case rel => exact ⟨i + 1, by omega, by go_num, Lib.hid (fun e he hbe => by
                            by_cases q' : e = i
                            · subst q'; exact HBH.out.symm
                            · exact HI.out e (by omega) hbe), HB7⟩
                          case measure => simp [intOf]; omega
                      · have ba := bit_one hS128 hbi
                        have HBI := Lib.hid hbi
                        clear hbi
                        go_upto_region 25 with fail
                        go_quiet (fail)
                        go_wp2_with fail
                        go_roundw
                        case rel => exact ⟨i + 1, by omega, by go_num, Lib.hid (fun e he hbe => by
                            by_cases q' : e = i
                            · subst q'; rw [HBI.out] at hbe; cases hbe
                            · exact HI.out e (by omega) hbe), Lib.hid (by repeat (first | exact HBi.out | refine below_drewN ?_ _ | refine Below.drew ?_))⟩
                        case measure => simp [intOf]; omega
                    · obtain rfl : n = i := by omega
                      go_wp2_with fail
                      go_roundw
                      case rel => exact ⟨q + 1, by omega, by go_num, Lib.hid (fun last hl => by
                        by_cases e : last = q
                        · subst e; intro _ _; rw [← HV.out]; exact HI.out
                        · exact HQ.out last (by omega)), HBi⟩
                      case measure => simp [intOf]; omega
            · obtain rfl : n = q := by omega
              go_wp2_with fail
              go_roundw
              case rel => exact ⟨S + 1, by omega, by omega, by go_num, Lib.hid (fun S' h1 h2 last hl => by
                by_cases e : S' = S
                · subst e; exact HQ.out last hl
                · exact HR.out S' h1 (by omega) last hl), HB⟩
              case measure => simp [intOf]; omega
        · obtain rfl : F = S := by omega
          go_wp2_with fail
          go_ret2
          refine ⟨true, rfl, ⟨fun _ => ⟨fun e he => ?_, fun e he => ?_, fun set h1 h2 last hla hbl hx e he hbe => ?_⟩, fun _ => rfl⟩, HBD.out.trans (HBs.out.mono HBD.out.size)⟩
          · rw [← HN.out.1, show 2 ^ n - 1 = F by rw [HN.out.2.2.2, HN.out.2.2.1]]
            exact (HJ.out e (by rw [HN.out.1]; exact he)).1
          · exact (HJ.out e (by rw [HN.out.1]; exact he)).2
          · rw [← HN.out.1] at h2 hla he
            rw [← HN.out.2.2.1] at h2
            exact HR.out set h1 (by omega) last hla hbl hx e he hbe
end Go.Proofs.Ytokdleanpkkdpaa
