/- Contracts of IndexFunc and ContainsFunc at closures; Which; conditions: lengths that a title has. -/
import Derived.Test.YtokdleanpkkdpaaE3
set_option linter.unusedSimpArgs false
set_option linter.unusedVariables false
namespace Go.Ed
open Go.Fh Go.RowKit Go.Proofs.Ytokdleanpkkdpaa
/-- the zone and the edition of a copy -/
def whichE (t : TitD) (es : List EdD) (o : List Nat) (copy : Int) : Int × Int × Int :=
  match (partsL t es o).find? (fun p => inB copy p.2.1 p.2.2) with
  | some p => (p.1, findI (fun e => e.zones.any fun z => p.1 == z) es, 0)
  | none => (0, 0, 6)
theorem findI_map {α β : Type} (f : α → β) (p : β → Bool) (l : List α) : findI (fun x => p (f x)) l = findI p (l.map f) := by
  induction l with
  | nil => rfl
  | cons x l ih => simp [findI, ih]
theorem find_take {α : Type} {p : α → Bool} {l : List α} {k : Nat} (hk : k < l.length) (h0 : ∀ x ∈ l.take k, p x = false) (h1 : p l[k] = true) : l.find? p = some l[k] := by
  induction l generalizing k with
  | nil => simp at hk
  | cons x l ih =>
    cases k with
    | zero => simp at h1; simp [h1]
    | succ k =>
      have hx : p x = false := h0 x (by simp)
      have := ih (k := k) (by simpa using hk) (fun y hy => h0 y (by simp [hy])) (by simpa using h1)
      simpa [hx] using this
end Go.Ed
namespace Go.Proofs.Ytokdleanpkkdpaa
open Go.RowKit Go.Fh Go.Ed
set_option maxRecDepth 20000 in
set_option maxHeartbeats 1000000 in
theorem idxEd_any (gP : Nat) (A : Option Addr) (c : Nat) (l : List EdM) (p : EdM → Bool) (w : World) (hl : l.length ≤ 9223372036854775807) (hA : Sl encEd 5 w w.heap.size A l)
    (hF : ∀ k (hk : k < l.length) W, Below w.heap.size w W → Calls Try.prog 67 #[.agg #[.slice l[k].2.z l[k].1.zones.length l[k].2.cz, .int .i64 l[k].1.copies, .int .i64 l[k].1.ready, .int .i64 l[k].1.due, .slice l[k].2.v l[k].1.variants.length l[k].2.cv], .pointer (some ⟨gP, 0, none⟩)] W fun e w' => e = .returned (.bool (p l[k])) ∧ Below W.heap.size W w') :
    Calls Try.prog 66 #[.slice A l.length c, .func (.func 67) #[] #[.pointer (some ⟨gP, 0, none⟩)]] w fun e w' => e = .returned (.int .i64 (findI p l)) ∧ Below w.heap.size w w' := by
  have HA := Lib.hid hA
  have HF := Lib.hid hF
  clear hA hF
  go_enter Try.func66, Try.ntmps66
  go_wp2
  go_loopw [8] (fun i wr => ∃ k : Nat, k ≤ l.length ∧ i = .int .i64 k ∧ Hid (∀ x ∈ l.take k, p x = false) ∧ Below w.heap.size w wr) (fun i _ => l.length - (intOf i).toNat)
  case atStart => exact ⟨0, Nat.zero_le _, rfl, by simp [Hid], Below.refl _ _⟩
  case round =>
    obtain ⟨k, hk, rfl, HN, hB⟩ := hrel
    have HB := Lib.hid hB
    by_cases hlt : k < l.length
    · obtain ⟨b, off, rfl, hb, c0, c1, c2, c3, c4⟩ := Sl.atEd (HA.out.below hB) hlt
      have HC := Lib.hid (HF.out k hlt wr hB)
      clear hB
      cases hw : p l[k]
      · rw [hw] at HC
        have HW := Lib.hid hw
        clear hw
        go_wp2_with (go_at_call 67; refine HC.out.mono ?_; rintro e w' ⟨rfl, hb'⟩; have HB2 := Lib.hid (HB.out.trans (hb'.mono HB.out.size)); clear hb')
        go_roundw
        case rel =>
          refine ⟨k + 1, by omega, by go_num, ?_, HB2.out⟩
          intro x hx
          rw [List.take_succ_eq_append_getElem hlt, List.mem_append] at hx
          rcases hx with hx | hx
          · exact HN.out x hx
          · simp at hx; subst hx; exact HW.out
        case measure => simp [intOf]; omega
      · rw [hw] at HC
        have HR := Lib.hid (findI_hit (p := p) hlt HN.out hw)
        clear hw
        go_wp2_with (go_at_call 67; refine HC.out.mono ?_; rintro e w' ⟨rfl, hb'⟩; have HB2 := Lib.hid (HB.out.trans (hb'.mono HB.out.size)); clear hb')
        go_ret
        exact ⟨ret_int HR.out.symm, HB2.out⟩
    · clear hB
      go_wp2
      go_ret
      exact ⟨ret_int (findI_miss (fun x hx => HN.out x (by rw [List.take_of_length_le (by omega)]; exact hx))).symm, HB.out⟩
set_option maxRecDepth 20000 in
set_option maxHeartbeats 1000000 in
theorem hasZone_any (e : EdM) (gP : Nat) (z : Int) (w : World) (hl : e.1.zones.length ≤ 9223372036854775807) (hP : w.cell? ⟨gP, 0, none⟩ = some (.int .i64 z)) (hZ : Sl encInt 1 w w.heap.size e.2.z e.1.zones) :
    Calls Try.prog 67 #[.agg #[.slice e.2.z e.1.zones.length e.2.cz, .int .i64 e.1.copies, .int .i64 e.1.ready, .int .i64 e.1.due, .slice e.2.v e.1.variants.length e.2.cv], .pointer (some ⟨gP, 0, none⟩)] w fun r w' => r = .returned (.bool (e.1.zones.any fun x => z == x)) ∧ Below w.heap.size w w' := by
  have hlp : gP < w.heap.size := block_lt_of_cell hP
  have hb0 : Below w.heap.size w (w.alloc (.cells #[.slice e.2.z e.1.zones.length e.2.cz, .int .i64 e.1.copies, .int .i64 e.1.ready, .int .i64 e.1.due, .slice e.2.v e.1.variants.length e.2.cv] 52)) := (Below.refl _ _).alloc (Nat.le_refl _) _
  have HB := Lib.hid hb0
  have HZ := Lib.hid ((hZ.below hb0).mono hb0.size)
  clear hb0 hZ
  go_enter Try.func67, Try.ntmps67
  go_wp2_with (go_at_call 68; refine (contains_any _ _ _ _ _ hl HZ.out).mono ?_; rintro e w' ⟨rfl, hb⟩)
  go_ret
  exact ⟨rfl, HB.out.trans (hb.mono HB.out.size)⟩
section
set_option maxRecDepth 20000 in
set_option maxHeartbeats 2000000 in
theorem Which_bad (t : TitD) (x : TA) (zs : List ZonM) (w : World) (hs : Sizes t) (hT : TitAt w w.heap.size t x zs) (copy : Int) (A : Option Addr) (c : Nat) (l : List Int) (hc : checkT t ≠ 0) :
    Calls Try.prog 18 #[.agg (titV t x), .slice A l.length c, .int .i64 copy] w fun e w' => e = .returned (.tuple #[.int .i64 0, .int .i64 0, .int .i64 (checkT t)]) ∧ Below w.heap.size w w' := by
  obtain ⟨w1, hw1⟩ : ∃ W, W = w.alloc (.cells (titV t x) 26) := ⟨_, rfl⟩
  have hb1 : Below w.heap.size w w1 := by rw [hw1]; exact (Below.refl _ _).alloc (Nat.le_refl _) _
  obtain ⟨gT, hgT⟩ : ∃ g, g = w.heap.size := ⟨_, rfl⟩
  have kT : Blk w1 gT 26 (titV t x) := by rw [hw1, hgT]; exact Blk.new _ _ _
  have r0 := kT.cell 0
  have r1 := kT.cell 1
  have r2 := kT.cell 2
  have r3 := kT.cell 3
  have r4 := kT.cell 4
  have r5 := kT.cell 5
  have r6 := kT.cell 6
  have r7 := kT.cell 7
  simp [titV] at r0 r1 r2 r3 r4 r5 r6 r7
  have HCK := Lib.hid (ask_bad t x zs w1 hs ((hT.below hb1).mono hb1.size) A c l hc)
  obtain ⟨ck, hck⟩ : ∃ c, c = checkT t := ⟨_, rfl⟩
  rw [← hck] at HCK hc ⊢
  have ht : (ck != 0) = true := by simpa using hc
  have HB1 := Lib.hid hb1
  have HW1 := Lib.hid hw1
  have HGT := Lib.hid hgT
  clear hb1 hw1 hgT kT hT hs hc hck
  unfold titV at *
  go_enter Try.func18, Try.ntmps18
  go_upto_region 1 with fail
  rw [← HW1.out, ← HGT.out]
  go_wp2_with (go_at_call 63; refine HCK.out.mono ?_; rintro e w2 ⟨rfl, hb2⟩; have HB2 := Lib.hid hb2; clear hb2)
  go_ret3
  exact ⟨rfl, HB1.out.trans (HB2.out.mono HB1.out.size)⟩
set_option maxRecDepth 20000 in
set_option maxHeartbeats 2000000 in
theorem Which_arg (t : TitD) (x : TA) (zs : List ZonM) (w : World) (hs : Sizes t) (hT : TitAt w w.heap.size t x zs) (copy : Int) (A : Option Addr) (c : Nat) (l : List Int) (hl : l.length ≤ 1000000000) (hA : Sl encInt 1 w w.heap.size A l) (hc : checkT t = 0) (ho : ordersB (edsR t).length l = false) :
    Calls Try.prog 18 #[.agg (titV t x), .slice A l.length c, .int .i64 copy] w fun e w' => e = .returned (.tuple #[.int .i64 0, .int .i64 0, .int .i64 1]) ∧ Below w.heap.size w w' := by
  obtain ⟨w1, hw1⟩ : ∃ W, W = w.alloc (.cells (titV t x) 26) := ⟨_, rfl⟩
  have hb1 : Below w.heap.size w w1 := by rw [hw1]; exact (Below.refl _ _).alloc (Nat.le_refl _) _
  obtain ⟨gT, hgT⟩ : ∃ g, g = w.heap.size := ⟨_, rfl⟩
  have kT : Blk w1 gT 26 (titV t x) := by rw [hw1, hgT]; exact Blk.new _ _ _
  have r0 := kT.cell 0
  have r1 := kT.cell 1
  have r2 := kT.cell 2
  have r3 := kT.cell 3
  have r4 := kT.cell 4
  have r5 := kT.cell 5
  have r6 := kT.cell 6
  have r7 := kT.cell 7
  simp [titV] at r0 r1 r2 r3 r4 r5 r6 r7
  have HCK := Lib.hid (ask_ok t x zs w1 hs ((hT.below hb1).mono hb1.size) A c l hl ((hA.below hb1).mono hb1.size) hc)
  rw [ho] at HCK
  simp only [Bool.false_eq_true, if_false] at HCK
  have HB1 := Lib.hid hb1
  have HW1 := Lib.hid hw1
  have HGT := Lib.hid hgT
  clear hb1 hw1 hgT kT hT hs hc hA ho
  unfold titV at *
  go_enter Try.func18, Try.ntmps18
  go_upto_region 1 with fail
  rw [← HW1.out, ← HGT.out]
  go_wp2_with (go_at_call 63; refine HCK.out.mono ?_; rintro e w2 ⟨k, rfl, hk, hb2⟩; have HB2 := Lib.hid hb2; clear hb2 hk)
  go_ret3
  exact ⟨rfl, HB1.out.trans (HB2.out.mono HB1.out.size)⟩
set_option maxRecDepth 20000 in
set_option maxHeartbeats 4000000 in
theorem Which_ok (t : TitD) (x : TA) (zs : List ZonM) (w : World) (hs : Sizes t) (hT : TitAt w w.heap.size t x zs) (A : Option Addr) (c : Nat) (o : List Nat) (copy : Int) (hl : o.length ≤ 1000) (hA : Sl encInt 1 w w.heap.size A (o.map fun (e : Nat) => (e : Int))) (hc : checkT t = 0) (ho : ordersB (edsR t).length (o.map fun (e : Nat) => (e : Int)) = true) :
    Calls Try.prog 18 #[.agg (titV t x), .slice A o.length c, .int .i64 copy] w fun e w' => e = .returned (.tuple #[.int .i64 (whichE t (edsR t) o copy).1, .int .i64 (whichE t (edsR t) o copy).2.1, .int .i64 (whichE t (edsR t) o copy).2.2]) ∧ Below w.heap.size w w' := by
  have hpl : (partsL t (edsR t) o).length ≤ 12000 := by
    have h1 : (partsL t (edsR t) o).length = (zoneL (edsR t) o).length := partsGo_len _ _ _
    have h2 := (zoneL_len (chk_ok hc) o (fun e he => by
      unfold ordersB at ho
      simp only [Bool.and_eq_true] at ho
      have := inB_iff.1 (List.all_eq_true.1 ho.1.2 (e : Int) (List.mem_map.2 ⟨e, he, rfl⟩))
      omega)).1
    omega
  have HZN := Lib.hid (fun (k : Wk) W B (hk : WorkAt W B t x k) i (hi : i < k.es.length) => (edsR_zn (chk_ok hc) (show k.es[i].1 ∈ edsR t by rw [← hk.eds]; exact List.mem_map.2 ⟨_, List.getElem_mem hi, rfl⟩)).1)
  have h7 := (eds_le hc).2
  obtain ⟨w1, hw1⟩ : ∃ W, W = w.alloc (.cells (titV t x) 26) := ⟨_, rfl⟩
  have hb1 : Below w.heap.size w w1 := by rw [hw1]; exact (Below.refl _ _).alloc (Nat.le_refl _) _
  obtain ⟨gT, hgT⟩ : ∃ g, g = w.heap.size := ⟨_, rfl⟩
  have kT : Blk w1 gT 26 (titV t x) := by rw [hw1, hgT]; exact Blk.new _ _ _
  have r0 := kT.cell 0
  have r1 := kT.cell 1
  have r2 := kT.cell 2
  have r3 := kT.cell 3
  have r4 := kT.cell 4
  have r5 := kT.cell 5
  have r6 := kT.cell 6
  have r7 := kT.cell 7
  simp [titV] at r0 r1 r2 r3 r4 r5 r6 r7
  have hlo : (o.map fun (e : Nat) => (e : Int)).length = o.length := by simp
  have HCK := Lib.hid (ask_ok t x zs w1 hs ((hT.below hb1).mono hb1.size) A c (o.map fun (e : Nat) => (e : Int)) (by rw [hlo]; omega) ((hA.below hb1).mono hb1.size) hc)
  rw [hlo, ho] at HCK
  simp only [if_true] at HCK
  have hoe : ∀ e ∈ o, e < (edsR t).length := by
    intro e he
    unfold ordersB at ho
    simp only [Bool.and_eq_true] at ho
    have := inB_iff.1 (List.all_eq_true.1 ho.1.2 (e : Int) (List.mem_map.2 ⟨e, he, rfl⟩))
    omega
  have HT1 := Lib.hid ((hT.below hb1).mono hb1.size)
  have HA1 := Lib.hid ((hA.below hb1).mono hb1.size)
  have HPA := Lib.hid (fun (k : Wk) W (hk : WorkAt W w1.heap.size t x k) (hb : Below w1.heap.size w1 W) => parts_any t x zs k w1.heap.size A c o W (chk_ok hc) ((HT1.out.below hb).mono hb.size) hk hl hoe ((HA1.out.below hb).mono hb.size))
  have HB1 := Lib.hid hb1
  have HW1 := Lib.hid hw1
  have HGT := Lib.hid hgT
  clear hb1 hw1 hgT kT hT hs hc hA ho hoe hlo
  unfold titV at *
  go_enter Try.func18, Try.ntmps18
  go_upto_region 1 with fail
  rw [← HW1.out, ← HGT.out]
  obtain ⟨pl, hpl0⟩ : ∃ l, l = partsL t (edsR t) o := ⟨_, rfl⟩
  rw [← hpl0] at hpl HPA
  have hwh : whichE t (edsR t) o copy = match pl.find? (fun p => inB copy p.2.1 p.2.2) with
    | some p => (p.1, findI (fun e => e.zones.any fun z => p.1 == z) (edsR t), 0)
    | none => (0, 0, 6) := by rw [hpl0]; rfl
  have HWH := Lib.hid hwh
  clear hpl0 hwh
  go_wp2_with first
    | (go_at_call 63; refine HCK.out.mono ?_; rintro e w2 ⟨k, rfl, hk, hb2⟩; have HB2 := Lib.hid hb2; have HK := Lib.hid hk; clear hb2 hk)
    | (go_at_call 64; refine (HPA.out k _ HK.out HB2.out).mono ?_; rintro e w3 ⟨A', c', rfl, hown, hb3⟩; have HO3 := Lib.hid hown; have HB3 := Lib.hid hb3; have HB13 := Lib.hid (HB1.out.trans ((HB2.out.trans (hb3.mono HB2.out.size)).mono HB1.out.size)); clear hown hb3)
  have HSP := Lib.hid (Sl.of_own (enc := enc3) (fun _ => rfl) HO3.out)
  have HK3 := Lib.hid (HK.out.below HB3.out)
  go_loopw [26] (fun i wr => ∃ q : Nat, q ≤ pl.length ∧ i = .int .i64 q ∧ Hid (∀ p ∈ pl.take q, inB copy p.2.1 p.2.2 = false) ∧ Below w3.heap.size w3 wr) (fun i _ => pl.length - (intOf i).toNat)
  case atStart => exact ⟨0, Nat.zero_le _, rfl, by simp [Hid], Below.refl _ _⟩
  case round =>
    obtain ⟨q, hq, rfl, HN, hB⟩ := hrel
    have HB := Lib.hid hB
    have hsz := hB.size
    clear hB
    by_cases hlt : q < pl.length
    · obtain ⟨b, off, hoa, hb, c0, c1, c2⟩ := (HSP.out.below HB.out).at3 hlt
      subst hoa
      obtain ⟨⟨pz, lo, hi⟩, hp⟩ : ∃ p, p = pl[q] := ⟨_, rfl⟩
      rw [← hp] at c0 c1 c2
      dsimp only at c0 c1 c2
      obtain ⟨wP, hwP⟩ : ∃ W, W = wr.alloc (.cells #[.int .i64 pz, .int .i64 lo, .int .i64 hi] 45) := ⟨_, rfl⟩
      obtain ⟨gP, hgP⟩ : ∃ g, g = wr.heap.size := ⟨_, rfl⟩
      have kP : Blk wP gP 45 #[.int .i64 pz, .int .i64 lo, .int .i64 hi] := by rw [hwP, hgP]; exact Blk.new _ _ _
      have hbP : Below w3.heap.size w3 wP := by rw [hwP]; exact HB.out.alloc hsz _
      have HWP := Lib.hid hwP
      have HGP := Lib.hid hgP
      have KP := Lib.hid kP
      have HBP := Lib.hid hbP
      have HPQ := Lib.hid hp
      have q0 := kP.cell 0
      have q1 := kP.cell 1
      have q2 := kP.cell 2
      simp at q0 q1 q2
      have y8 := (HK3.out.below hbP).hk.cell 8
      simp [workV] at y8
      clear hwP hgP kP hbP hp
      cases hin : inB copy lo hi
      · have HIN := Lib.hid hin
        clear hin
        go_upto_region 7 with fail
        rw [← HWP.out, ← HGP.out]
        go_wp2_with (go_at_call 65; refine (within_any _ _ _ _).mono ?_; rintro e w' ⟨he, rfl⟩; rw [HIN.out] at he; subst he)
        go_roundw
        case rel =>
          refine ⟨q + 1, by omega, by go_num, ?_, HBP.out⟩
          intro y hy
          rw [List.take_succ_eq_append_getElem hlt, List.mem_append] at hy
          rcases hy with hy | hy
          · exact HN.out y hy
          · simp at hy; subst hy; rw [← HPQ.out]; exact HIN.out
        case measure => simp [intOf]; omega
      · have hfd := find_take (p := fun p : Int × Int × Int => inB copy p.2.1 p.2.2) hlt HN.out (by rw [← HPQ.out]; exact hin)
        rw [← HPQ.out] at hfd
        have HIN := Lib.hid hin
        have hwv := HWH.out
        rw [hfd] at hwv
        dsimp only at hwv
        have HWV := Lib.hid hwv
        have hix := fun W (hb : Below wP.heap.size wP W) => idxEd_any gP k.E k.cE k.es (fun e => e.1.zones.any fun z => pz == z) W (by rw [HK.out.len]; omega) (((HK3.out.below HBP.out).below hb).hE) (fun i hi W' hb' => hasZone_any k.es[i] gP pz W' (by have := HZN.out k _ _ HK.out i hi; omega) ((((KP.out.below hb KP.out.lt).below hb' (KP.out.below hb KP.out.lt).lt).cell 0).trans rfl) ((((HK3.out.below HBP.out).below hb).below hb').hZ i hi))
        have HIX := Lib.hid hix
        have HFM := Lib.hid (show findI (fun e : EdM => e.1.zones.any fun z => pz == z) k.es = findI (fun e => e.zones.any fun z => pz == z) (edsR t) by rw [← HK.out.eds]; exact findI_map (·.1) (fun e : EdD => e.zones.any fun z => pz == z) k.es)
        have SB := Lib.hid (show ∀ W, Below wP.heap.size wP W → (W.cell? ⟨gP, 0, none⟩ = some (.int .i64 pz) ∧ W.cell? ⟨k.g, 8, none⟩ = some (.slice k.E k.es.length k.cE)) from fun W hb => ⟨by rw [(KP.out.below hb KP.out.lt).cell]; simp, by rw [((HK3.out.below HBP.out).below hb).hk.cell]; simp [workV]⟩)
        clear hin hfd hwv hix
        go_upto_region 7 with fail
        rw [← HWP.out, ← HGP.out]
        go_upto_region 8 with (go_at_call 65; refine (within_any _ _ _ _).mono ?_; rintro e w' ⟨he, rfl⟩; rw [HIN.out] at he; subst he)
        clear c0 c1 c2 q0 q1 q2 y8
        go_region_held3 (fun w' => w'.cell? ⟨gP, 0, none⟩ = some (.int .i64 pz) ∧ w'.cell? ⟨k.g, 8, none⟩ = some (.slice k.E k.es.length k.cE))
          (exact SB.out _ (by repeat (first | exact Below.refl _ _ | exact HB9.out | refine Below.drew ?_)))
          ((go_at_call 66; refine (HIX.out _ (by repeat (first | exact Below.refl _ _ | refine Below.drew ?_))).mono ?_; rintro e w9 ⟨rfl, hb9⟩; have HB9 := Lib.hid (((Below.refl wP.heap.size wP).drew).trans hb9); clear hb9))
        all_goals
          go_wp2_with fail
          go_ret3
          refine ⟨?_, HB13.out.trans ((HBP.out.trans (HB9.out.mono HBP.out.size)).mono HB13.out.size)⟩
          rw [HWV.out, HFM.out]; rfl
    · have hnone : pl.find? (fun p => inB copy p.2.1 p.2.2) = none := by
        rw [List.find?_eq_none]
        intro y hy
        have := HN.out y (by rw [List.take_of_length_le (by omega)]; exact hy)
        simp [this]
      have hwv := HWH.out
      rw [hnone] at hwv
      have HWV := Lib.hid hwv
      clear hnone hwv
      go_wp2_with fail
      go_ret3
      exact ⟨by rw [HWV.out]; rfl, HB13.out.trans (HB.out.mono HB13.out.size)⟩
end
end Go.Proofs.Ytokdleanpkkdpaa
