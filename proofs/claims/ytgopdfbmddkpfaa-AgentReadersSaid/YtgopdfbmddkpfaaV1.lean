/- Contracts of Gets and of the map of subscribers; conditions: none. -/
import Derived.Test.YtgopdfbmddkpfaaS2
import Derived.Test.YtgopdfbmddkpfaaSpec8
import Derived.Test.YtgopdfbmddkpfaaMaps
set_option linter.unusedSimpArgs false
set_option linter.unusedVariables false
namespace Go.Fh
open Go.Ag Go.Proofs.Ytgopdfbmddkpfaa
/-- a subscriber, and where its holidays lie -/
abbrev SubM := SubD × Option Addr × Nat
def encSub (x : SubM) : List Value := [.int .i64 x.1.id, .int .i64 x.1.lo, .int .i64 x.1.hi, .int .i64 x.1.days, .slice x.2.1 x.1.hol.length x.2.2]
def evSub (x : SubM) : Value := .agg #[.int .i64 x.1.id, .int .i64 x.1.lo, .int .i64 x.1.hi, .int .i64 x.1.days, .slice x.2.1 x.1.hol.length x.2.2]
theorem Sl.at5 {B : Nat} {w : World} {A : Option Addr} {l : List SubM} (h : Sl encSub 5 w B A l) {k : Nat} (hk : k < l.length) :
    ∃ b off, A = some ⟨b, off, none⟩ ∧ b < B ∧ w.cell? ⟨b, off + k * 5, none⟩ = some (.int .i64 l[k].1.id) ∧ w.cell? ⟨b, off + k * 5 + 1, none⟩ = some (.int .i64 l[k].1.lo) ∧ w.cell? ⟨b, off + k * 5 + 2, none⟩ = some (.int .i64 l[k].1.hi) ∧ w.cell? ⟨b, off + k * 5 + 3, none⟩ = some (.int .i64 l[k].1.days) ∧ w.cell? ⟨b, off + k * 5 + 4, none⟩ = some (.slice l[k].2.1 l[k].1.hol.length l[k].2.2) := by
  obtain ⟨b, off, hA, hb, hc⟩ := h.at_ hk
  exact ⟨b, off, hA, hb, hc 0 _ rfl, hc 1 _ rfl, hc 2 _ rfl, hc 3 _ rfl, hc 4 _ rfl⟩
theorem mset_fresh {κ ν : Type} [DecidableEq κ] {m : List (κ × ν)} {x : κ} {v : ν} (h : ∀ p ∈ m, p.1 ≠ x) : mset m x v = m ++ [(x, v)] := by
  induction m with
  | nil => rfl
  | cons p m ih =>
    have h1 := h p (by simp)
    simp only [mset, if_neg (fun e : x = p.1 => h1 e.symm), List.cons_append]
    rw [ih (fun q hq => h q (by simp [hq]))]
theorem mget_none {κ ν : Type} [DecidableEq κ] {m : List (κ × ν)} {x : κ} (h : ∀ p ∈ m, p.1 ≠ x) : mget m x = none := by
  induction m with
  | nil => rfl
  | cons p m ih =>
    have h1 := h p (by simp)
    simp only [mget, if_neg (fun e : x = p.1 => h1 e.symm)]
    exact ih (fun q hq => h q (by simp [hq]))
theorem mget_some {κ ν : Type} [DecidableEq κ] {m : List (κ × ν)} {x : κ} (h : ∃ p ∈ m, p.1 = x) : ∃ v, mget m x = some v ∧ (x, v) ∈ m := by
  induction m with
  | nil => obtain ⟨p, hp, _⟩ := h; cases hp
  | cons p m ih =>
    by_cases e : x = p.1
    · exact ⟨p.2, by simp [mget, e], by simp [e]⟩
    · obtain ⟨q, hq, hqe⟩ := h
      rcases List.mem_cons.1 hq with rfl | hq
      · exact absurd hqe.symm e
      · obtain ⟨v, hv, hm⟩ := ih ⟨q, hq, hqe⟩
        exact ⟨v, by simp [mget, e, hv], by simp [hm]⟩
def subMap (l : List SubM) : List (Int × SubM) := l.map fun x => (x.1.id, x)
theorem metS_map {l : List SubM} {k : Nat} {x : Int} : metS (l.map Prod.fst) k x = true ↔ ∃ p ∈ subMap (l.take k), p.1 = x := by
  unfold metS subMap
  rw [← List.map_take, List.any_map, List.any_eq_true]
  constructor
  · rintro ⟨y, hy, he⟩
    exact ⟨(y.1.id, y), List.mem_map.2 ⟨y, hy, rfl⟩, by simpa using he⟩
  · rintro ⟨p, hp, he⟩
    obtain ⟨y, hy, rfl⟩ := List.mem_map.1 hp
    exact ⟨y, hy, by simpa using he⟩
end Go.Fh
namespace Go.Proofs.Ytgopdfbmddkpfaa
open Go.RowKit Go.Fh Go.Ag
theorem zero63 : ∀ w, (zeroValue 63).run Try.prog w = .ok (.agg #[.int .i64 0, .int .i64 0, .int .i64 0, .int .i64 0, .slice none 0 0]) w := fun w => by kernel_rfl

set_option maxRecDepth 20000 in
set_option maxHeartbeats 2000000 in
theorem getsR_any (s : SubD) (A : Option Addr) (c : Nat) (day : Int) (w : World) (hl : s.hol.length ≤ 9223372036854775807) (hA : Sl enc2 2 w w.heap.size A s.hol) :
    Calls Try.prog 26 #[.agg #[.int .i64 s.id, .int .i64 s.lo, .int .i64 s.hi, .int .i64 s.days, .slice A s.hol.length c], .int .i64 day] w fun e w' => e = .returned (.tuple #[.bool (getsR s day).1, .int .i64 (getsR s day).2]) ∧ Below w.heap.size w w' := by
  have hb0 : Below w.heap.size w (w.alloc (.cells #[.int .i64 s.id, .int .i64 s.lo, .int .i64 s.hi, .int .i64 s.days, .slice A s.hol.length c] 63)) := (Below.refl _ _).alloc (Nat.le_refl _) _
  have hk := Blk.new w 63 #[.int .i64 s.id, .int .i64 s.lo, .int .i64 s.hi, .int .i64 s.days, .slice A s.hol.length c]
  have HK := Lib.hid hk
  have HA := Lib.hid hA
  have HW := Lib.hid (wrongS_any s A c _ hl ((hA.below hb0).mono hb0.size))
  clear hA hk
  cases h1 : wrongS s
  · rw [h1] at HW
    have ok := (OkS_iff s).1 h1
    have HOK := Lib.hid ok
    clear ok
    have hbw2 : ∀ w1, Below (w.alloc (.cells #[.int .i64 s.id, .int .i64 s.lo, .int .i64 s.hi, .int .i64 s.days, .slice A s.hol.length c] 63)).heap.size (w.alloc (.cells #[.int .i64 s.id, .int .i64 s.lo, .int .i64 s.hi, .int .i64 s.days, .slice A s.hol.length c] 63)) w1 → Below w.heap.size w w1 := fun w1 hb1 => hb0.trans (hb1.mono hb0.size)
    have HBW := Lib.hid hbw2
    clear hbw2
    unfold subV at *
    cases h2 : inB day 0 20000
    · have hr : getsR s day = (false, 6) := by simp [getsR, h1, h2]
      have HR := Lib.hid hr
      clear hr
      go_enter Try.func26, Try.ntmps26
      go_wp2_with (first | (go_at_call 67; refine HW.out.mono ?_; rintro e w1 ⟨rfl, hb1⟩) | (go_at_call 48; refine (within_any _ _ _ _).mono ?_; rintro e w1 ⟨rfl, rfl⟩))
      go_ret2
      exact ⟨by rw [HR.out]; rfl, HBW.out _ hb1⟩
    · have hr : getsR s day = (getsB s day, 0) := by simp [getsR, h1, h2]
      have HR := Lib.hid hr
      clear hr
      go_enter Try.func26, Try.ntmps26
      go_wp2_with fail
      refine HW.out.mono ?_
      rintro e w1 ⟨rfl, hb1⟩
      have kb := HK.out.below hb1 (by simp)
      have u0 := kb.cell 0
      have u1 := kb.cell 1
      have u2 := kb.cell 2
      have u3 := kb.cell 3
      have u4 := kb.cell 4
      simp at u0 u1 u2 u3 u4
      have hbw := HBW.out _ hb1
      have HBW1 := Lib.hid hbw
      clear kb hbw
      have hg := gets_any s A c day w1 HOK.out.2.1.1 HOK.out.2.2.1.2 HOK.out.2.2.2.1.1 HOK.out.2.2.2.1.2 hl ((HA.out.below HBW1.out).mono HBW1.out.size)
      unfold subV at hg
      have HG := Lib.hid hg
      clear hg
      go_wp2_with (go_at_call 48; refine (within_any _ _ _ _).mono ?_; rintro e w1 ⟨rfl, rfl⟩)
      refine HG.out.mono ?_
      rintro e w2 ⟨rfl, hb2⟩
      go_wp2_with fail
      go_ret2
      exact ⟨by rw [HR.out]; rfl, HBW1.out.trans (hb2.mono HBW1.out.size)⟩
  · rw [h1] at HW
    have hr : getsR s day = (false, 120) := by simp [getsR, h1]
    have HR := Lib.hid hr
    clear hr
    unfold subV at *
    go_enter Try.func26, Try.ntmps26
    go_wp2_with (go_at_call 67; refine HW.out.mono ?_; rintro e w1 ⟨rfl, hb1⟩)
    go_ret2
    exact ⟨by rw [HR.out]; rfl, hb0.trans (hb1.mono hb0.size)⟩

set_option maxRecDepth 20000 in
set_option maxHeartbeats 4000000 in
theorem subsMap_any (A : Option Addr) (c : Nat) (l : List SubM) (w : World) (hl : l.length ≤ 9223372036854775807) (hh : ∀ x ∈ l, x.1.hol.length ≤ 1000) (hA : Sl encSub 5 w w.heap.size A l) (hI : ∀ x ∈ l, Sl enc2 2 w w.heap.size x.2.1 x.1.hol) :
    Calls Try.prog 69 #[.slice A l.length c] w fun e w' => ∃ v, e = .returned (.tuple #[v, .int .i64 (listE (l.map Prod.fst))]) ∧ (listE (l.map Prod.fst) = 0 → ∃ g, v = .map (some g) ∧ w.heap.size ≤ g ∧ MapIs (fun n : Int => Value.int .i64 n) evSub w' g (subMap l)) ∧ Below w.heap.size w w' := by
  by_cases h500 : 500 < l.length
  · have hr : listE (l.map Prod.fst) = 2 := by simp [listE, h500]
    have HR := Lib.hid hr
    clear hr
    go_enter Try.func69, Try.ntmps69
    go_wp2_with fail
    go_ret2
    exact ⟨.map none, by rw [HR.out]; rfl, (fun h => by rw [HR.out] at h; cases h), Below.refl _ _⟩
  · have hr1 : listE (l.map Prod.fst) = firstErr (errS (l.map Prod.fst)) l.length := by simp [listE, h500]
    have HR1 := Lib.hid hr1
    have HA := Lib.hid hA
    have HIN := Lib.hid hI
    have HH := Lib.hid hh
    have hmm := @run_makeMap Try.prog
    have hb0 : Below w.heap.size w (w.alloc (.map #[] 0)) := (Below.refl _ _).alloc (Nat.le_refl _) _
    have hm0 : MapIs (fun n : Int => Value.int .i64 n) evSub (w.alloc (.map #[] 0)) w.heap.size (subMap (l.take 0)) := by simpa [subMap] using MapIs.new w (fun n : Int => Value.int .i64 n) evSub
    have HM0 := Lib.hid hm0
    clear hr1 hA hI hh hm0
    go_enter Try.func69, Try.ntmps69
    go_wp2_with fail
    clear hmm
    go_loopw [15] (fun i wr => ∃ k : Nat, k ≤ l.length ∧ i = .int .i64 k ∧ Hid (firstErr (errS (l.map Prod.fst)) k = 0) ∧ Hid (MapIs (fun n : Int => Value.int .i64 n) evSub wr w.heap.size (subMap (l.take k))) ∧ Below w.heap.size w wr) (fun i _ => l.length - (intOf i).toNat)
    case atStart => exact ⟨0, Nat.zero_le _, rfl, rfl, HM0, hb0⟩
    case round =>
      obtain ⟨k, hk, rfl, HE, HM, hB⟩ := hrel
      have hglt := HM.out.lt
      by_cases hlt : k < l.length
      · obtain ⟨b, off, rfl, hb, c0, c1, c2, c3, c4⟩ := (HA.out.below hB).at5 hlt
        have hlt2 : k < (l.map Prod.fst).length := by simpa using hlt
        have hget := errS_get hlt2
        rw [List.getElem_map] at hget
        have hstop : errS (l.map Prod.fst) k ≠ 0 → listE (l.map Prod.fst) = errS (l.map Prod.fst) k := fun h => by rw [HR1.out, firstErr_stop HE.out h hlt]
        have hxI := HIN.out _ (List.getElem_mem hlt)
        have hxh := HH.out _ (List.getElem_mem hlt)
        have hsz := hB.size
        have htk : subMap (l.take (k + 1)) = subMap (l.take k) ++ [(l[k].1.id, l[k])] := by unfold subMap; rw [List.take_succ_eq_append_getElem hlt, List.map_append]; rfl
        obtain ⟨x, hx⟩ : ∃ x, x = l[k] := ⟨_, rfl⟩
        rw [← hx] at c0 c1 c2 c3 c4 hget hxI hxh htk
        have hbw : b < wr.heap.size := by omega
        have hBn := hB.alloc hB.size (.cells #[.int .i64 x.1.id, .int .i64 x.1.lo, .int .i64 x.1.hi, .int .i64 x.1.days, .slice x.2.1 x.1.hol.length x.2.2] 63)
        have hkn := Blk.new wr 63 #[.int .i64 x.1.id, .int .i64 x.1.lo, .int .i64 x.1.hi, .int .i64 x.1.days, .slice x.2.1 x.1.hol.length x.2.2]
        have hmn := HM.out.alloc (.cells #[.int .i64 x.1.id, .int .i64 x.1.lo, .int .i64 x.1.hi, .int .i64 x.1.days, .slice x.2.1 x.1.hol.length x.2.2] 63)
        have hwr := wrongS_any x.1 x.2.1 x.2.2 _ (by omega) ((hxI.below hBn).mono hBn.size)
        unfold subV at hwr
        have HWR := Lib.hid hwr
        have HG := Lib.hid hget
        have HS := Lib.hid hstop
        have HTK := Lib.hid htk
        have HX := Lib.hid hx
        have HBN := Lib.hid hBn
        have HKN := Lib.hid hkn
        have HMN := Lib.hid hmn
        clear hget hstop hxI htk hx hBn hkn hmn hwr hlt2
        cases hbad : wrongS x.1
        · rw [hbad] at HWR
          go_wp2_with fail
          refine HWR.out.mono ?_
          rintro e w1 ⟨rfl, hb1⟩
          have hk1 := Blk.below HKN.out hb1 HKN.out.lt
          have hm1 := MapIs.below HMN.out hb1 (by simp; omega)
          have hB1 := HBN.out.trans (hb1.mono HBN.out.size)
          have u0 := hk1.cell 0
          have u1 := hk1.cell 1
          have u2 := hk1.cell 2
          have u3 := hk1.cell 3
          have u4 := hk1.cell 4
          simp at u0 u1 u2 u3 u4
          have hlt1 := hk1.lt
          have HK1 := Lib.hid hk1
          have HM1 := Lib.hid hm1
          have HB1 := Lib.hid hB1
          clear hk1 hm1 hB1 hb1 HMN HKN HBN HM c0 c1 c2 c3 c4
          cases hmet : metS (l.map Prod.fst) k x.1.id
          · have hfr : ∀ p ∈ subMap (l.take k), p.1 ≠ x.1.id := by
              intro p hp e
              have := metS_map.2 ⟨p, hp, e⟩
              rw [hmet] at this; cases this
            have hnone := mget_none hfr
            have hms := mset_fresh (v := x) hfr
            have hgo := firstErr_go HE.out (by rw [HG.out, hbad, hmet]; simp)
            have HGO := Lib.hid hgo
            have HNONE := Lib.hid hnone
            have HMS := Lib.hid hms
            clear hfr hnone hms hgo
            go_wp2_with (first
              | (at_lookup; refine wpList_lookup rfl (.tmp 22) (.tmp 24) 135 true rfl Try.underlying135 (keyLaw_int Try.underlying3) zero63 HM1.out x.1.id rfl rfl ?_; simp only [if_true, HNONE.out, Option.map_none, Option.getD_none, Option.isSome_none])
              | (at_mapUpdate; refine wpList_update rfl (.tmp 29) (.tmp 31) (.tmp 32) 135 rfl Try.underlying135 (keyLaw_int Try.underlying3) (HM1.out.alloc (.cells #[.int .i64 0, .int .i64 0, .int .i64 0, .int .i64 0, .slice none 0 0] 63)) x.1.id x rfl rfl rfl ?_; intro w2 hm2 hg2 hs2; clear hs2))
            rw [HMS.out, ← HTK.out] at hm2
            have HM2 := Lib.hid hm2
            have hw1 : w.heap.size ≤ w1.heap.size := HB1.out.size
            have HB2 := Lib.hid ((HB1.out.alloc HB1.out.size (.cells #[.int .i64 0, .int .i64 0, .int .i64 0, .int .i64 0, .slice none 0 0] 63)).grown hg2 (by simp; omega) (fun j hj => by injection hj with hj; omega))
            clear hm2 hg2
            go_wp2_with fail
            go_roundw
            case rel => exact ⟨k + 1, by omega, by go_num, HGO.out, HM2.out, HB2.out⟩
            case measure => simp [intOf]; omega
          · have hst := HS.out (by rw [HG.out, hbad, hmet]; simp)
            rw [HG.out, hbad, hmet] at hst
            simp only [Bool.false_eq_true, if_false, if_true] at hst
            have HST := Lib.hid hst
            obtain ⟨y, hy, _⟩ := mget_some (metS_map.1 hmet)
            have HY := Lib.hid hy
            clear hst hy
            go_wp2_with (at_lookup; refine wpList_lookup rfl (.tmp 22) (.tmp 24) 135 true rfl Try.underlying135 (keyLaw_int Try.underlying3) zero63 HM1.out x.1.id rfl rfl ?_; simp only [if_true, HY.out, Option.map_some, Option.getD_some, Option.isSome_some, evSub])
            go_ret2
            exact ⟨.map none, by rw [HST.out]; rfl, (fun h => by rw [HST.out] at h; cases h), HB1.out.alloc HB1.out.size _⟩
        · rw [hbad] at HWR
          have hst := HS.out (by rw [HG.out, hbad]; simp)
          rw [HG.out, hbad] at hst
          simp only [if_true] at hst
          have HST := Lib.hid hst
          clear hst
          go_wp2_with fail
          refine HWR.out.mono ?_
          rintro e w1 ⟨rfl, hb1⟩
          go_wp2_with fail
          go_ret2
          exact ⟨.map none, by rw [HST.out]; rfl, (fun h => by rw [HST.out] at h; cases h), HBN.out.trans (hb1.mono HBN.out.size)⟩
      · obtain rfl : k = l.length := by omega
        have hr := HR1.out.trans HE.out
        have HR := Lib.hid hr
        have HMF := HM
        rw [List.take_length] at HMF
        clear hr HM
        go_wp2_with fail
        go_ret2
        exact ⟨.map (some w.heap.size), by rw [HR.out]; rfl, fun _ => ⟨_, rfl, Nat.le_refl _, HMF.out⟩, hB⟩
end Go.Proofs.Ytgopdfbmddkpfaa
