/- Contract of the reference's Carrier; conditions: none. -/
import Derived.Test.YtgopdfbmddkpfaaV3
import Derived.Test.YtgopdfbmddkpfaaVA
import Derived.Test.YtgopdfbmddkpfaaV7
import Derived.Test.YtgopdfbmddkpfaaR3
set_option linter.unusedSimpArgs false
set_option linter.unusedVariables false
namespace Go.Ag
def comK (l : List SubD) (a b : Int) (x : Int × Int) (k : Nat) : Bool := (l.take k).any fun s => s.id == x.1 && (inB x.2 a b && getsB s x.2)
theorem comK_succ {l : List SubD} {k : Nat} (hk : k < l.length) (a b : Int) (x : Int × Int) : comK l a b x (k + 1) = (comK l a b x k || (l[k].id == x.1 && (inB x.2 a b && getsB l[k] x.2))) := by
  unfold comK
  rw [List.take_succ_eq_append_getElem hk, List.any_append]
  simp
theorem comK_all (l : List SubD) (a b : Int) (x : Int × Int) : comK l a b x l.length = comOk l a b x := by
  unfold comK comOk
  rw [List.take_length]
theorem metC_hit {c : List (Int × Int)} {j k : Nat} (hj : j < k) (hk : k ≤ c.length) {x : Int × Int} (h : (c[j]'(by omega)) = x) : metC c k x = true := by
  unfold metC
  rw [List.any_eq_true]
  exact ⟨c[j]'(by omega), by rw [List.mem_take_iff_getElem]; exact ⟨j, by omega, rfl⟩, by simpa using h⟩
end Go.Ag
namespace Go.Proofs.Ytgopdfbmddkpfaa
open Go.RowKit Go.Fh Go.Ag

theorem eqlComplaint169 (x y : Int × Int) (w : World) : (Op.equal 169 (.agg #[.int .i64 x.1, .int .i64 x.2]) (.agg #[.int .i64 y.1, .int .i64 y.2])).run Try.prog w = .ok (decide (x = y)) w := by
  have u3 := Try.underlying3
  have hS : Try.prog.underlying 169 = some (.struct (Try.prog.fieldsOf 169)) := by kernel_rfl
  have hp : Try.prog.stoodInHeld 169 = false := by kernel_rfl
  unfold Op.equal Op.maxDepth
  rw [show (10000 : Nat) = 9999 + 1 from rfl, run_equalIn_agg w 9999 169 _ _ hS hp]
  simp only [Program.fieldsOf, Try.underlying169]
  go_simp
  have hxy : x = y ↔ x.1 = y.1 ∧ x.2 = y.2 := by constructor; (intro e; subst e; simp); (intro e; exact Prod.ext e.1 e.2)
  by_cases h0 : x.1 = y.1 <;> by_cases h1 : x.2 = y.2 <;> simp [hxy, h0, h1]

set_option maxRecDepth 20000 in
set_option maxHeartbeats 8000000 in
theorem rcarrier_any (t : TariffD) (L : Option Addr) (cl : Nat) (l : List SubM) (C : Option Addr) (cc : Nat) (cm : List (Int × Int)) (a b : Int) (w : World) (hl : l.length ≤ 9223372036854775807) (hcl : cm.length ≤ 9223372036854775807)
    (hh : ∀ x ∈ l, x.1.hol.length ≤ 1000) (hL : Sl encSub 5 w w.heap.size L l) (hI : ∀ x ∈ l, Sl enc2 2 w w.heap.size x.2.1 x.1.hol) (hC : Sl enc2 2 w w.heap.size C cm) :
    Calls Try.prog 90 #[.agg (tarV t), .slice L l.length cl, .slice C cm.length cc, .int .i64 a, .int .i64 b] w (AccPost (carrierD t (l.map Prod.fst) cm a b) w) := by
  have HL := Lib.hid hL
  have HIN := Lib.hid hI
  have HCM := Lib.hid hC
  have HH := Lib.hid hh
  obtain ⟨ls, hls⟩ : ∃ ls, ls = l.map Prod.fst := ⟨_, rfl⟩
  have hsm := fun W (h1 : Sl encSub 5 W W.heap.size L l) h2 => listed_any L cl l W hl hh h1 h2
  rw [← hls] at hsm ⊢
  have HLS := Lib.hid hls
  have HSM := Lib.hid hsm
  clear hL hI hC hh hls hsm
  unfold tarV
  go_enter Try.func90, Try.ntmps90
  go_wp2_with fail
  refine (priced_any t _).mono ?_
  rintro e w1 ⟨rfl, hb1⟩
  obtain ⟨q1, q2⟩ := bcell hb1
  have hz : w.heap.size + 1 < w1.heap.size := by have := hb1.size; simp at this; omega
  have hz0 : w.heap.size < w1.heap.size := by omega
  have hbw : Below w.heap.size w w1 := (((Below.refl w.heap.size w).alloc (Nat.le_refl _) _).alloc (by simp) _).trans (hb1.mono (by simp; omega))
  have k1 : Blk w1 w.heap.size 111 #[.int .i64 t.price, .int .i64 t.back, .int .i64 t.late, .int .i64 t.carry, .int .i64 t.credit] :=
    ((Blk.new w 111 _).alloc _).below hb1 (by simp; omega)
  have k2 : Blk w1 (w.heap.size + 1) 108 #[.slice none 0 0, .int .i64 0] := by
    have := Blk.new (w.alloc (.cells #[.int .i64 t.price, .int .i64 t.back, .int .i64 t.late, .int .i64 t.carry, .int .i64 t.credit] 111)) 108 #[.slice none 0 0, .int .i64 0]
    rw [World.size_alloc] at this
    exact this.below hb1 (by simp)
  have K1 := Lib.hid k1
  have K2 := Lib.hid k2
  have HBW := Lib.hid hbw
  clear q1 q2 k1 k2 hb1
  -- every early way out
  have herr : ∀ (W : World) (n : Int), Below w1.heap.size w1 W → carrierE t ls cm a b = n → n ≠ 0 → ∀ v, v = Value.int .i64 n → ∀ W', W' = (W.setCell ⟨w.heap.size + 1, 0, none⟩ (.slice none 0 0)).setCell ⟨w.heap.size + 1, 1, none⟩ (.int .i64 0) →
      (W'.cell? ⟨w.heap.size + 1, 0, none⟩ = some (Value.slice none 0 0) ∧ W'.cell? ⟨w.heap.size + 1, 1, none⟩ = some (Value.int .i64 0)) ∧ AccPost (carrierD t ls cm a b) w (.returned (.tuple #[.agg #[.slice none 0 0, .int .i64 0], v])) W' := by
    intro W n hW he hn v hv W' hW'
    subst hv; subst hW'
    have kf := ((K2.out.below hW hz).set_ 0 (.slice none 0 0)).set_ 1 (.int .i64 0)
    refine ⟨⟨by simpa using kf.cell 0, by simpa using kf.cell 1⟩, AccPost.err ?_ ?_⟩
    · simp [carrierD, he, hn]
    · exact ((HBW.out.trans (hW.mono HBW.out.size)).setCell (by simp) _).setCell (by simp) _
  have HERR := Lib.hid herr
  clear herr
  have k2a := K2.out.cell 0
  have k2b := K2.out.cell 1
  have k2c := K2.out.frozen 0
  have k2d := K2.out.frozen 1
  simp at k2a k2b
  cases h1 : wrongT t
  case true =>
    have hce : carrierE t ls cm a b = 1 := by simp [carrierE, h1]
    have HE := Lib.hid (HERR.out w1 1 (Below.refl _ _) hce (by decide) _ rfl _ rfl)
    clear hce
    go_wp2_with fail
    refine bodyPost_ret (v := .tuple #[.agg #[.slice none 0 0, .int .i64 0], .int .i64 1]) ?_ rfl HE.out.2
    have z1 := HE.out.1.1
    have z2 := HE.out.1.2
    generalize World.setCell _ _ _ = W at z1 z2 ⊢
    simp [results, Try.results90, go_sem, z1, z2]
  case false =>
    have hT := (OkT_iff t).1 h1
    obtain ⟨⟨t1, t2⟩, ⟨t3, t4⟩, ⟨t5, t6⟩, ⟨t7, t8⟩, ⟨t9, t10⟩⟩ := hT
    have H1 := Lib.hid h1
    go_wp2_with fail
    refine (HSM.out _ ((HL.out.below HBW.out).mono HBW.out.size) (fun x hx => ((HIN.out x hx).below HBW.out).mono HBW.out.size)).mono ?_
    rintro e w2 ⟨rfl, hb2⟩
    have hB12 := hb2
    have HB12 := Lib.hid hB12
    have k22 := K2.out.below hb2 hz
    have K22 := Lib.hid k22
    have K12 := Lib.hid (K1.out.below hb2 hz0)
    have y0 := k22.cell 0
    have y1 := k22.cell 1
    have y2 := k22.frozen 0
    have y3 := k22.frozen 1
    simp at y0 y1
    have hz2 : w.heap.size + 1 < w2.heap.size := by have := hb2.size; omega
    clear hb2 hB12 k22 k2a k2b k2c k2d
    by_cases hE : listE ls = 0
    case neg =>
      have hce : carrierE t ls cm a b = listE ls := by simp [carrierE, H1.out, hE]
      have HE := Lib.hid (HERR.out w2 _ HB12.out hce hE _ rfl _ rfl)
      have t0 : (listE ls != 0) = true := by simp [hE]
      generalize listE ls = el at *
      clear hce hE
      go_wp2_with fail
      refine bodyPost_ret (v := .tuple #[.agg #[.slice none 0 0, .int .i64 0], .int .i64 el]) ?_ rfl HE.out.2
      have z1 := HE.out.1.1
      have z2 := HE.out.1.2
      generalize World.setCell _ _ _ = W at z1 z2 ⊢
      simp [results, Try.results90, go_sem, z1, z2]
    case pos =>
      have HE0 := Lib.hid hE
      rw [hE]
      clear hE
      by_cases hp : periodB a b = true
      case neg =>
        have hce : carrierE t ls cm a b = 6 := by simp [carrierE, H1.out, HE0.out, hp]
        have HE := Lib.hid (HERR.out w2 6 HB12.out hce (by decide) _ rfl _ rfl)
        have HP := Lib.hid hp
        clear hce hp
        cases ha : inB a 0 20000
        · go_wp2_with (go_at_call 103; refine (rin_any _ _ _ _).mono ?_; rintro e w' ⟨rfl, rfl⟩)
          refine bodyPost_ret (v := .tuple #[.agg #[.slice none 0 0, .int .i64 0], .int .i64 6]) ?_ rfl HE.out.2
          have z1 := HE.out.1.1
          have z2 := HE.out.1.2
          generalize World.setCell _ _ _ = W at z1 z2 ⊢
          simp [results, Try.results90, go_sem, z1, z2]
        · cases hbb : inB b 0 20000
          · go_wp2_with (go_at_call 103; refine (rin_any _ _ _ _).mono ?_; rintro e w' ⟨rfl, rfl⟩)
            refine bodyPost_ret (v := .tuple #[.agg #[.slice none 0 0, .int .i64 0], .int .i64 6]) ?_ rfl HE.out.2
            have z1 := HE.out.1.1
            have z2 := HE.out.1.2
            generalize World.setCell _ _ _ = W at z1 z2 ⊢
            simp [results, Try.results90, go_sem, z1, z2]
          · have hlt : b < a := by
              have h1 := inB_iff.1 ha
              have h2 := inB_iff.1 hbb
              have h3 := HP.out
              have : ¬ (a ≤ b) := fun h => h3 (by unfold periodB; rw [ha, inB_iff.2 ⟨h, h2.2⟩]; rfl)
              omega
            have t0 : decide (b < a) = true := by simpa using hlt
            clear hlt
            go_wp2_with (go_at_call 103; refine (rin_any _ _ _ _).mono ?_; rintro e w' ⟨rfl, rfl⟩)
            refine bodyPost_ret (v := .tuple #[.agg #[.slice none 0 0, .int .i64 0], .int .i64 6]) ?_ rfl HE.out.2
            have z1 := HE.out.1.1
            have z2 := HE.out.1.2
            generalize World.setCell _ _ _ = W at z1 z2 ⊢
            simp [results, Try.results90, go_sem, z1, z2]
      case pos =>
        have hpp : (0 ≤ a ∧ a ≤ 20000) ∧ (a ≤ b ∧ b ≤ 20000) := by simpa [periodB, inB] using hp
        obtain ⟨⟨p1, p2⟩, p3, p4⟩ := hpp
        have ha : inB a 0 20000 = true := inB_iff.2 ⟨p1, p2⟩
        have hbb : inB b 0 20000 = true := inB_iff.2 ⟨by omega, p4⟩
        have t00 : decide (b < a) = false := by simp; omega
        by_cases h5 : 500 < cm.length
        · have hce : carrierE t ls cm a b = 2 := by simp [carrierE, H1.out, HE0.out, hp, h5]
          have HE := Lib.hid (HERR.out w2 2 HB12.out hce (by decide) _ rfl _ rfl)
          have t0 : decide ((500 : Int) < (cm.length : Int)) = true := by simp; omega
          clear hce hp
          go_wp2_with (go_at_call 103; refine (rin_any _ _ _ _).mono ?_; rintro e w' ⟨rfl, rfl⟩)
          refine bodyPost_ret (v := .tuple #[.agg #[.slice none 0 0, .int .i64 0], .int .i64 2]) ?_ rfl HE.out.2
          have z1 := HE.out.1.1
          have z2 := HE.out.1.2
          generalize World.setCell _ _ _ = W at z1 z2 ⊢
          simp [results, Try.results90, go_sem, z1, z2]
        · have hce : carrierE t ls cm a b = firstErr (errC ls cm a b) cm.length := by simp [carrierE, H1.out, HE0.out, hp, h5]
          have HCE := Lib.hid hce
          have t0 : decide ((500 : Int) < (cm.length : Int)) = false := by simp; omega
          have hl500 : l.length ≤ 500 := by have := (listE_zero HE0.out).1; rw [HLS.out] at this; simpa using this
          have hoks := (listE_zero HE0.out).2.1
          have HOKS := Lib.hid hoks
          have hlsl : ls.length = l.length := by rw [HLS.out]; simp
          have HLSL := Lib.hid hlsl
          clear hce hp hoks hlsl
          go_wp2_with (go_at_call 103; refine (rin_any _ _ _ _).mono ?_; rintro e w' ⟨rfl, rfl⟩)
          clear y0 y1 y2 y3 t00 t0 ha hbb
          go_loopw [13] (fun i wr => ∃ k : Nat, k ≤ cm.length ∧ i = .int .i64 k ∧ Hid (firstErr (errC ls cm a b) k = 0) ∧ Below w2.heap.size w2 wr) (fun i _ => cm.length - (intOf i).toNat)
          case atStart => exact ⟨0, Nat.zero_le _, rfl, rfl, Below.refl _ _⟩
          case round =>
            obtain ⟨k, hk, rfl, HFE, hB⟩ := hrel
            have hB1 := HB12.out.trans (hB.mono HB12.out.size)
            have hBw := HBW.out.trans (hB1.mono HBW.out.size)
            have hsz := hB.size
            by_cases hlt : k < cm.length
            · obtain ⟨cb, off, rfl, hcb, c0, c1⟩ := (HCM.out.below hBw).at2 hlt
              have hget := errC_get (l := ls) (a := a) (b := b) hlt
              have hstop : errC ls cm a b k ≠ 0 → carrierE t ls cm a b = errC ls cm a b k := fun h => by rw [HCE.out, firstErr_stop HFE.out h hlt]
              obtain ⟨x, hx⟩ : ∃ x, x = cm[k] := ⟨_, rfl⟩
              rw [← hx] at c0 c1 hget
              have HG := Lib.hid hget
              have HS := Lib.hid hstop
              have HX := Lib.hid hx
              have HB0 := Lib.hid hB
              obtain ⟨w3, hw3⟩ : ∃ w3, w3 = wr := ⟨_, rfl⟩
              rw [← hw3] at c0 c1 hB hBw HB0 hsz ⊢
              have C0 := Lib.hid c0
              have C1 := Lib.hid c1
              have HBW3 := Lib.hid hBw
              have hz3 : w.heap.size + 1 < w3.heap.size := by omega
              have hcb3 : cb < w3.heap.size := by have := hBw.size; omega
              clear hget hstop hx hB1 hB hBw hw3 c0 c1
              go_wp2_with fail
              go_loopw [14, 15] (fun ok i wr => ∃ j : Nat, j ≤ l.length ∧ i = .int .i64 j ∧ ok = .bool (comK ls a b x j) ∧ Below w3.heap.size w3 wr) (fun _ i _ => l.length - (intOf i).toNat)
              case atStart => exact ⟨0, Nat.zero_le _, rfl, by simp [comK], Below.refl _ _⟩
              case round =>
                obtain ⟨j, hj, rfl, rfl, hB⟩ := hrel
                by_cases hjt : j < l.length
                · have hBw := HBW3.out.trans (hB.mono HBW3.out.size)
                  obtain ⟨lb, lo, rfl, hlb, d0, d1, d2, d3, d4⟩ := (HL.out.below hBw).at5 hjt
                  have c0 := (hB.cell (p := ⟨cb, off + k * 2, none⟩) (by exact hcb3)).trans C0.out
                  have c1 := (hB.cell (p := ⟨cb, off + k * 2 + 1, none⟩) (by exact hcb3)).trans C1.out
                  have hjs : j < ls.length := by rw [HLSL.out]; exact hjt
                  have hgj : ls[j] = l[j].1 := by
                    have : ls[j]? = some l[j].1 := by rw [HLS.out]; simp [hjt]
                    rw [List.getElem?_eq_getElem hjs] at this
                    exact Option.some.inj this
                  have hck := comK_succ hjs a b x
                  have hyo : OkS l[j].1 := by have := HOKS.out _ (List.getElem_mem hjs); rwa [hgj] at this
                  have hyI := HIN.out _ (List.getElem_mem hjt)
                  rw [hgj] at hck
                  obtain ⟨y, hy⟩ : ∃ y, y = l[j] := ⟨_, rfl⟩
                  rw [← hy] at d0 d1 d2 d3 d4 hyo hyI hck
                  have hlbw : lb < wr.heap.size := by have := hBw.size; omega
                  have hcbw : cb < wr.heap.size := by have := hB.size; omega
                  have HCK := Lib.hid hck
                  clear hck hgj hjs hy
                  by_cases hid : y.1.id = x.1
                  · have q1 : (y.1.id == x.1) = true := by simp [hid]
                    have Q1 := Lib.hid q1
                    clear hid
                    by_cases q2 : a ≤ x.2
                    · by_cases q3 : x.2 ≤ b
                      · have r2 : decide (a ≤ x.2) = true := by simpa using q2
                        have r3 : decide (x.2 ≤ b) = true := by simpa using q3
                        have hin : inB x.2 a b = true := inB_iff.2 ⟨q2, q3⟩
                        have hgt := fun W (hW : Below wr.heap.size wr W) => rgets_any y.1 y.2.1 y.2.2 x.2 W hyo.2.2.2.1.1 hyo.2.2.2.1.2 (by omega) (by have := hyo.2.2.2.2.1; omega) (((hyI.below hBw).mono hBw.size).below hW |>.mono hW.size)
                        have HGT := Lib.hid hgt
                        have HIN2 := Lib.hid hin
                        have SB := Lib.hid (show ∀ W, Below wr.heap.size wr W → (W.cell? ⟨lb, lo + j * 5, none⟩ = some (.int .i64 y.1.id) ∧ W.cell? ⟨lb, lo + j * 5 + 1, none⟩ = some (.int .i64 y.1.lo) ∧ W.cell? ⟨lb, lo + j * 5 + 2, none⟩ = some (.int .i64 y.1.hi) ∧ W.cell? ⟨lb, lo + j * 5 + 3, none⟩ = some (.int .i64 y.1.days) ∧ W.cell? ⟨lb, lo + j * 5 + 4, none⟩ = some (.slice y.2.1 y.1.hol.length y.2.2) ∧ W.cell? ⟨cb, off + k * 2, none⟩ = some (.int .i64 x.1) ∧ W.cell? ⟨cb, off + k * 2 + 1, none⟩ = some (.int .i64 x.2)) from fun W hb => ⟨(hb.cell (p := ⟨lb, lo + j * 5, none⟩) hlbw).trans d0, (hb.cell (p := ⟨lb, lo + j * 5 + 1, none⟩) hlbw).trans d1, (hb.cell (p := ⟨lb, lo + j * 5 + 2, none⟩) hlbw).trans d2, (hb.cell (p := ⟨lb, lo + j * 5 + 3, none⟩) hlbw).trans d3, (hb.cell (p := ⟨lb, lo + j * 5 + 4, none⟩) hlbw).trans d4, (hb.cell (p := ⟨cb, off + k * 2, none⟩) hcbw).trans c0, (hb.cell (p := ⟨cb, off + k * 2 + 1, none⟩) hcbw).trans c1⟩)
                        clear hgt hin hyI hyo
                        go_upto_region 17 with fail
                        go_cut [99] (fun p wx => p = .bool (getsB y.1 x.2) ∧ Below wr.heap.size wr wx)
                        case first =>
                          go_region_held3 (fun W => W.cell? ⟨lb, lo + j * 5, none⟩ = some (.int .i64 y.1.id) ∧ W.cell? ⟨lb, lo + j * 5 + 1, none⟩ = some (.int .i64 y.1.lo) ∧ W.cell? ⟨lb, lo + j * 5 + 2, none⟩ = some (.int .i64 y.1.hi) ∧ W.cell? ⟨lb, lo + j * 5 + 3, none⟩ = some (.int .i64 y.1.days) ∧ W.cell? ⟨lb, lo + j * 5 + 4, none⟩ = some (.slice y.2.1 y.1.hol.length y.2.2) ∧ W.cell? ⟨cb, off + k * 2, none⟩ = some (.int .i64 x.1) ∧ W.cell? ⟨cb, off + k * 2 + 1, none⟩ = some (.int .i64 x.2))
                            (exact SB.out _ (by repeat (first | exact Below.refl _ _ | exact hb5 | refine Below.drew ?_ | refine below_drewN ?_ _)))
                            ((go_at_call 121; refine (HGT.out _ (by repeat (first | exact Below.refl _ _ | refine Below.drew ?_))).mono ?_; rintro e w5 ⟨rfl, hb5'⟩; have hb5 : Below wr.heap.size wr w5 := (Below.refl _ _).drew.trans hb5'))
                          all_goals go_wp2_with fail
                          all_goals go_meet
                          all_goals exact ⟨rfl, hb5⟩
                        case rest =>
                          obtain ⟨rfl, hbc⟩ := hcut
                          have HBC := Lib.hid (hB.trans (hbc.mono hB.size))
                          clear hbc d0 d1 d2 d3 d4 c0 c1
                          cases hgt : getsB y.1 x.2
                          · go_wp2_with fail
                            go_roundw
                            case rel => exact ⟨j + 1, by omega, by go_num, by rw [HCK.out, hgt]; simp, HBC.out⟩
                            case measure => simp [intOf]; omega
                          · have hk1 : comK ls a b x (j + 1) = true := by rw [HCK.out, hgt, HIN2.out, Q1.out]; simp
                            have HK1 := Lib.hid hk1
                            clear hk1
                            go_wp2_with fail
                            go_roundw
                            case rel => exact ⟨j + 1, by omega, by go_num, by rw [HK1.out], HBC.out⟩
                            case measure => simp [intOf]; omega
                      · have r2 : decide (a ≤ x.2) = true := by simpa using q2
                        have r3 : decide (x.2 ≤ b) = false := by simpa using q3
                        have hin : inB x.2 a b = false := by simp [inB]; omega
                        have HIN2 := Lib.hid hin
                        clear hin
                        go_wp2_with fail
                        go_quiet (fail)
                        go_wp2_with fail
                        go_roundw
                        case rel => exact ⟨j + 1, by omega, by go_num, by rw [HCK.out, HIN2.out]; simp, below_drewN hB _⟩
                        case measure => simp [intOf]; omega
                    · have r2 : decide (a ≤ x.2) = false := by simpa using q2
                      have hin : inB x.2 a b = false := by simp [inB]; omega
                      have HIN2 := Lib.hid hin
                      clear hin
                      go_wp2_with fail
                      go_quiet (fail)
                      go_wp2_with fail
                      go_roundw
                      case rel => exact ⟨j + 1, by omega, by go_num, by rw [HCK.out, HIN2.out]; simp, below_drewN hB _⟩
                      case measure => simp [intOf]; omega
                  · have q1 : (y.1.id == x.1) = false := by simp [hid]
                    have Q1 := Lib.hid q1
                    clear hid
                    go_wp2_with fail
                    go_quiet (fail)
                    go_wp2_with fail
                    go_roundw
                    case rel => exact ⟨j + 1, by omega, by go_num, by rw [HCK.out, Q1.out]; simp, below_drewN hB _⟩
                    case measure => simp [intOf]; omega
                · obtain rfl : j = l.length := by omega
                  have hall : comK ls a b x l.length = comOk ls a b x := by rw [← HLSL.out]; exact comK_all ls a b x
                  rw [hall]
                  have h3r := HB0.out.trans (hB.mono HB0.out.size)
                  have hkk := K22.out.below h3r hz2
                  have n0 := hkk.cell 0
                  have n1 := hkk.cell 1
                  have n2 := hkk.frozen 0
                  have n3 := hkk.frozen 1
                  simp at n0 n1
                  have H3R := Lib.hid h3r
                  have HKK := Lib.hid hkk
                  clear hall h3r hkk hjt
                  cases hco : comOk ls a b x
                  · have hec : errC ls cm a b k = 4 := by rw [HG.out, hco]; simp
                    have hce : carrierE t ls cm a b = 4 := by rw [HS.out (by rw [hec]; decide), hec]
                    have HE := Lib.hid (HERR.out _ 4 (HB12.out.trans (H3R.out.mono HB12.out.size)) hce (by decide) _ rfl _ rfl)
                    clear hec hce
                    go_wp2_with fail
                    refine bodyPost_ret (v := .tuple #[.agg #[.slice none 0 0, .int .i64 0], .int .i64 4]) ?_ rfl HE.out.2
                    have z1 := HE.out.1.1
                    have z2 := HE.out.1.2
                    generalize World.setCell _ _ _ = W at z1 z2 ⊢
                    simp [results, Try.results90, go_sem, z1, z2]
                  · have HCO := Lib.hid hco
                    obtain ⟨w4, hw4⟩ : ∃ w4, w4 = wr := ⟨_, rfl⟩
                    rw [← hw4] at hB H3R HKK ⊢
                    have HB34 := Lib.hid hB
                    clear hco n0 n1 n2 n3 hw4
                    go_wp2_with fail
                    go_loopw [16] (fun i wr => ∃ m : Nat, m ≤ k ∧ i = .int .i64 m ∧ Hid (metC cm m x = false) ∧ Below w4.heap.size w4 wr) (fun i _ => k - (intOf i).toNat)
                    case atStart => exact ⟨0, Nat.zero_le _, rfl, by simp [Hid, metC], Below.refl _ _⟩
                    case round =>
                      clear hB
                      obtain ⟨m, hm, rfl, HM, hB⟩ := hrel
                      have h4r := HB34.out.trans (hB.mono HB34.out.size)
                      have h2r := H3R.out.trans (hB.mono H3R.out.size)
                      by_cases hmt : m < k
                      · have hml : m < cm.length := by omega
                        have c0 := (h4r.cell (p := ⟨cb, off + k * 2, none⟩) (by exact hcb3)).trans C0.out
                        have c1 := (h4r.cell (p := ⟨cb, off + k * 2 + 1, none⟩) (by exact hcb3)).trans C1.out
                        obtain ⟨e0, e1⟩ : wr.cell? ⟨cb, off + m * 2, none⟩ = some (.int .i64 cm[m].1) ∧ wr.cell? ⟨cb, off + m * 2 + 1, none⟩ = some (.int .i64 cm[m].2) := by
                          have hww := HBW3.out.trans (h4r.mono HBW3.out.size)
                          obtain ⟨b', off', e', _, f0, f1⟩ := (HCM.out.below hww).at2 hml
                          obtain ⟨rfl, rfl⟩ : cb = b' ∧ off = off' := by simpa using e'
                          exact ⟨f0, f1⟩
                        have hms := metC_succ hml x
                        have hhit := fun (h : cm[m] = x) => metC_hit hmt hk h
                        obtain ⟨z, hzz⟩ : ∃ z, z = cm[m] := ⟨_, rfl⟩
                        rw [← hzz] at e0 e1 hms hhit
                        have hkk := K22.out.below h2r hz2
                        have n0 := hkk.cell 0
                        have n1 := hkk.cell 1
                        have n2 := hkk.frozen 0
                        have n3 := hkk.frozen 1
                        simp at n0 n1
                        have HMS := Lib.hid hms
                        have HHIT := Lib.hid hhit
                        have H2R := Lib.hid h2r
                        clear hms hhit hzz hkk h2r h4r
                        by_cases hzx : z = x
                        · subst hzx
                          have hec : errC ls cm a b k = 10 := by rw [HG.out, HCO.out, HHIT.out rfl]; simp
                          have hce : carrierE t ls cm a b = 10 := by rw [HS.out (by rw [hec]; decide), hec]
                          have HCE2 := Lib.hid hce
                          clear hec hce
                          go_wp2_with fail
                          go_quiet (fail)
                          go_wp2_with fail
                          have HE := Lib.hid (HERR.out _ 10 (HB12.out.trans (below_drewN (H2R.out) nq |>.mono HB12.out.size)) HCE2.out (by decide) _ rfl _ rfl)
                          refine bodyPost_ret (v := .tuple #[.agg #[.slice none 0 0, .int .i64 0], .int .i64 10]) ?_ rfl HE.out.2
                          have z1 := HE.out.1.1
                          have z2 := HE.out.1.2
                          generalize World.setCell _ _ _ = W at z1 z2 ⊢
                          simp [results, Try.results90, go_sem, z1, z2]
                        · have hm2 : metC cm (m + 1) x = false := by rw [HMS.out, HM.out]; simpa using hzx
                          have HM2 := Lib.hid hm2
                          by_cases h0 : z.1 = x.1
                          · have h1 : ¬ z.2 = x.2 := fun h' => hzx (Prod.ext h0 h')
                            have h2 : (z.2 == x.2) = false := by simpa using h1
                            clear hm2 hzx
                            go_wp2_with fail
                            go_quiet (fail)
                            go_wp2_with fail
                            go_roundw
                            case rel => exact ⟨m + 1, by omega, by go_num, HM2, below_drewN hB _⟩
                            case measure => simp [intOf]; omega
                          · have h2 : (z.1 == x.1) = false := by simpa using h0
                            clear hm2 hzx
                            go_wp2_with fail
                            go_quiet (fail)
                            go_wp2_with fail
                            go_roundw
                            case rel => exact ⟨m + 1, by omega, by go_num, HM2, below_drewN hB _⟩
                            case measure => simp [intOf]; omega
                      · obtain rfl : m = k := by omega
                        have hgo := firstErr_go HFE.out (by rw [HG.out, HCO.out, HM.out]; simp)
                        have HGO := Lib.hid hgo
                        have H2R := Lib.hid h2r
                        clear hgo h2r h4r
                        go_wp2_with fail
                        go_roundw
                        case rel => exact ⟨m + 1, by omega, by go_num, HGO, H2R.out⟩
                        case measure => simp [intOf]; omega
            · obtain rfl : k = cm.length := by omega
              have hce : carrierE t ls cm a b = 0 := by rw [HCE.out, HFE.out]
              have hres : carrierD t ls cm a b = (0, carrierL t ls cm a b, sumLines (carrierL t ls cm a b)) := by simp [carrierD, hce]
              have HRES := Lib.hid hres
              obtain ⟨w4, hw4⟩ : ∃ w4, w4 = wr := ⟨_, rfl⟩
              rw [← hw4] at hB hB1 hBw hsz ⊢
              have HBW4 := Lib.hid hBw
              have HB24 := Lib.hid hB
              have hz4 : w.heap.size + 1 < w4.heap.size := by omega
              clear hce hres hsz hB hB1 hBw hw4
              go_wp2_with fail
              go_loopw [17, 18] (fun n i wr => ∃ k : Nat, k ≤ l.length ∧ i = .int .i64 k ∧ n = .int .i64 (allC ls a b k) ∧ Below w4.heap.size w4 wr) (fun _ i _ => l.length - (intOf i).toNat)
              case atStart => exact ⟨0, Nat.zero_le _, rfl, rfl, Below.refl _ _⟩
              case round =>
                obtain ⟨k, hk, rfl, rfl, hB⟩ := hrel
                have hBw := HBW4.out.trans (hB.mono HBW4.out.size)
                have hsz := hB.size
                have hcb : ∀ i, 0 ≤ copiesB (ls.getD i sub0) a b ∧ copiesB (ls.getD i sub0) a b ≤ 20001 := by
                  intro i
                  rw [copiesB_count]
                  have := copiesN_bd (ls.getD i sub0) a (b + 1 - a).toNat
                  omega
                have hbd : 0 ≤ allC ls a b k ∧ allC ls a b k ≤ 20001 * k := sumN_bd fun i _ => hcb i
                by_cases hlt : k < l.length
                · obtain ⟨lb, off, rfl, hlb, c0, c1, c2, c3, c4⟩ := (HL.out.below hBw).at5 hlt
                  have hxI := HIN.out _ (List.getElem_mem hlt)
                  have hgd : ls.getD k sub0 = l[k].1 := by rw [HLS.out]; simp [hlt]
                  have hxo : OkS l[k].1 := HOKS.out _ (by rw [HLS.out]; exact List.mem_map.2 ⟨l[k], List.getElem_mem hlt, rfl⟩)
                  have hcbk := hcb k
                  have hal : allC ls a b (k + 1) = allC ls a b k + copiesB (ls.getD k sub0) a b := rfl
                  rw [hgd] at hal hcbk
                  obtain ⟨x, hx⟩ : ∃ x, x = l[k] := ⟨_, rfl⟩
                  rw [← hx] at c0 c1 c2 c3 c4 hxI hxo hal hcbk
                  have hlbw : lb < wr.heap.size := by have := hBw.size; omega
                  have HCP := Lib.hid (rcopies_any x.1 x.2.1 x.2.2 a b wr hxo p1 p3 p4 ((hxI.below hBw).mono hBw.size))
                  have HAL := Lib.hid hal
                  have HBR := Lib.hid hB
                  have gw := IntWalk.i64_in (allC ls a b k + copiesB x.1 a b) (by omega)
                  clear hxI hgd hxo hx hBw hcb hal hB
                  generalize allC ls a b k = ak at *
                  generalize copiesB x.1 a b = cx at *
                  go_wp2_with fail
                  refine HCP.out.mono ?_
                  rintro e w5 ⟨rfl, hb5⟩
                  have HB5 := Lib.hid (HBR.out.trans (hb5.mono HBR.out.size))
                  clear hb5
                  go_wp2_with fail
                  go_roundw
                  case rel => exact ⟨k + 1, by omega, by go_num, int_eq (by rw [HAL.out]), HB5.out⟩
                  case measure => simp [intOf]; omega
                · obtain rfl : k = l.length := by omega
                  have hcl2 : carrierL t ls cm a b = [(4, allC ls a b l.length, allC ls a b l.length * t.carry), (5, cm.length, cm.length * -t.credit)] := by unfold carrierL; rw [HLSL.out]
                  have hk1 := (K12.out.below (HB24.out.trans (hB.mono HB24.out.size)) (by omega))
                  have hk2 := (K22.out.below (HB24.out.trans (hB.mono HB24.out.size)) hz2)
                  have K1' := Lib.hid hk1
                  have K2' := Lib.hid hk2
                  have a3 := hk1.cell 3
                  have a4 := hk1.cell 4
                  simp at a3 a4
                  have hsz4 : w.heap.size + 1 < wr.heap.size := by omega
                  have HBr := Lib.hid hBw
                  have hnb : 0 ≤ allC ls a b l.length ∧ allC ls a b l.length ≤ 10000500 := by omega
                  obtain ⟨nb1, nb2⟩ := hnb
                  have hcm5 : cm.length ≤ 500 := by omega
                  clear hk1 hk2 hcb hB hBw hbd
                  generalize allC ls a b l.length = n at *
                  have m1 := Int.mul_le_mul nb2 t8 t7 (by omega)
                  have m2 := Int.mul_nonneg nb1 t7
                  have m3 := Int.mul_le_mul (show (cm.length : Int) ≤ 500 by omega) t10 t9 (by omega)
                  have m4 := Int.mul_nonneg (show (0 : Int) ≤ (cm.length : Int) by omega) t9
                  have e1 : -(cm.length : Int) * t.credit = -((cm.length : Int) * t.credit) := by rw [Int.neg_mul]
                  have e2 : (cm.length : Int) * -t.credit = -((cm.length : Int) * t.credit) := by rw [Int.mul_neg]
                  have HCL := Lib.hid (hcl2.trans (by rw [e2, ← e1]))
                  have q1 : -100000000000 ≤ -(cm.length : Int) * t.credit ∧ -(cm.length : Int) * t.credit ≤ 100000000000 := by rw [e1]; omega
                  clear hcl2 e2 e1
                  have f1 := IntWalk.i64_in (n * t.carry) (by omega)
                  have f2 := IntWalk.i64_in (-(cm.length : Int)) (by omega)
                  have f3 := IntWalk.i64_in (-(cm.length : Int) * t.credit) (by omega)
                  go_wp2_with fail
                  have hk3 := Blk.new wr 182 #[.int .i64 4, .int .i64 n, .int .i64 (n * t.carry), .int .i64 5, .int .i64 cm.length, .int .i64 (-(cm.length : Int) * t.credit)]
                  refine (rsum_any (some ⟨wr.heap.size, 0, none⟩) 2 [(4, n, n * t.carry), (5, (cm.length : Int), -(cm.length : Int) * t.credit)] _ (by simp) (Sl.of_blk (enc := enc3) (fun _ => rfl) (by simp [maxLen]) hk3 rfl) ?_).mono ?_
                  · intro v hv
                    simp at hv
                    rcases hv with rfl | rfl
                    · dsimp only; omega
                    · dsimp only; omega
                  · rintro e w5 ⟨rfl, hB3⟩
                    have kk2 := (K2'.out.alloc (.cells #[.int .i64 4, .int .i64 n, .int .i64 (n * t.carry), .int .i64 5, .int .i64 cm.length, .int .i64 (-(cm.length : Int) * t.credit)] 182)).below hB3 (by simp; omega)
                    have m1' := kk2.cell 0
                    have m2' := kk2.cell 1
                    have m3' := kk2.frozen 0
                    have m4' := kk2.frozen 1
                    simp at m1' m2'
                    have KK := Lib.hid kk2
                    have K3 := Lib.hid (hk3.below hB3 (by simp))
                    clear kk2 hk3
                    go_wp2_with fail
                    have kf := (KK.out.set_ 0 (.slice (some ⟨wr.heap.size, 0, none⟩) 2 2)).set_ 1 (.int .i64 (sumLines [(4, n, n * t.carry), (5, (cm.length : Int), -(cm.length : Int) * t.credit)]))
                    refine bodyPost_ret (v := .tuple #[.agg #[.slice (some ⟨wr.heap.size, 0, none⟩) 2 2, .int .i64 (sumLines [(4, n, n * t.carry), (5, (cm.length : Int), -(cm.length : Int) * t.credit)])], .int .i64 0]) ?_ rfl ?_
                    · have z1 : World.cell? _ ⟨w.heap.size + 1, 0, none⟩ = some (Value.slice (some ⟨wr.heap.size, 0, none⟩) 2 2) := kf.cell 0
                      have z2 : World.cell? _ ⟨w.heap.size + 1, 1, none⟩ = some (Value.int .i64 (sumLines [(4, n, n * t.carry), (5, (cm.length : Int), -(cm.length : Int) * t.credit)])) := kf.cell 1
                      generalize World.setCell _ _ _ = W at z1 z2 ⊢
                      simp [results, Try.results90, go_sem, z1, z2]
                    · rw [HRES.out, HCL.out]
                      have hne : wr.heap.size ≠ w.heap.size + 1 := by omega
                      refine ⟨some ⟨wr.heap.size, 0, none⟩, 2, rfl, ?_, Fr.some (by omega), ((((HBr.out.alloc (by omega) _).trans (hB3.mono (by simp; omega))).setCell (by simp) _).setCell (by simp) _)⟩
                      have := ((K3.out.far (p := ⟨w.heap.size + 1, 0, none⟩) hne (.slice (some ⟨wr.heap.size, 0, none⟩) 2 2)).far (p := ⟨w.heap.size + 1, 1, none⟩) hne (.int .i64 (sumLines [(4, n, n * t.carry), (5, (cm.length : Int), -(cm.length : Int) * t.credit)])))
                      exact Sl.of_blk (enc := enc3) (fun _ => rfl) (by simp [maxLen]) this rfl
end Go.Proofs.Ytgopdfbmddkpfaa
