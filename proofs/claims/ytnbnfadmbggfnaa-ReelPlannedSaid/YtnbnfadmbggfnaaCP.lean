/- Contract of the reference's Prices; conditions: a supply in memory. -/
import Derived.Test.YtnbnfadmbggfnaaCO
set_option linter.unusedSimpArgs false
set_option linter.unusedVariables false
namespace Go.Proofs.Ytnbnfadmbggfnaa
open Go.RowKit Go.Fh Go.Rl
set_option maxRecDepth 20000 in
set_option maxHeartbeats 4000000 in
theorem rpric_bad (s : SupD) (x : SA) (w : World) (hl : s.need.length ≤ 1000000000 ∧ s.order.length ≤ 1000000000) (hT : SupAt w w.heap.size s x) (he : errS s ≠ 0) :
    Calls Try.prog 62 #[.agg #[.slice x.a s.need.length x.ca, .slice x.b s.order.length x.cb, .int .i64 s.keep, .int .i64 s.room]] w fun e w' => e = .returned (.tuple #[.slice none 0 0, .int .i64 (errS s)]) ∧ Hid (Below w.heap.size w w') := by
  obtain ⟨w1, gT, HW1, HGT, HB1, HTB⟩ := sup_box 121 s x w hT
  obtain ⟨hT1, r0, r1, r2, r3⟩ := HTB.out w1 (Below.refl _ _)
  have HCK := Lib.hid (rchkS_any s x w1 hl hT1)
  obtain ⟨ck, hck⟩ : ∃ c, c = errS s := ⟨_, rfl⟩
  rw [← hck] at HCK he ⊢
  have ht : (ck != 0) = true := by simpa using he
  unfold supV at *
  clear hT hT1 he hck
  go_enter Try.func62, Try.ntmps62
  go_upto_region 1 with fail
  rw [← HW1.out, ← HGT.out]
  go_wp2_with (go_at_call 59; with_reducible refine HCK.out.mono ?_; rintro e w2 ⟨rfl, HB2⟩)
  go_ret2
  exact ⟨rfl, Lib.hid (HB1.out.trans (HB2.out.mono HB1.out.size))⟩
end Go.Proofs.Ytnbnfadmbggfnaa
namespace Go.Rl
open Go.Fh
def dsum (f : Nat → Nat) : Nat → Nat
  | 0 => 0
  | k + 1 => dsum f k + f k
theorem dsum_zero {f : Nat → Nat} : ∀ n, (∀ m, m < n → f m = 0) → dsum f n = 0 := by
  intro n
  induction n with
  | zero => intro _; rfl
  | succ n ih => intro h; rw [dsum, ih fun m hm => h m (by omega), h n (by omega)]
theorem dsum_pos {f : Nat → Nat} : ∀ n m, m < n → 0 < f m → 0 < dsum f n := by
  intro n
  induction n with
  | zero => intro m h; omega
  | succ n ih =>
    intro m h hp
    rw [dsum]
    by_cases e : m = n
    · subst e; omega
    · have := ih m (by omega) hp; omega
/-- how far the prices are from the least ones, and whether one more round is to come -/
def rlxM (s : SupD) (n g : Nat) (u : Go.Value) (W : Go.World) : Nat :=
  2 * dsum (fun m => (Go.RowKit.intOf ((W.cell? ⟨g, m, none⟩).getD Go.undef) - leaV s m).toNat) (n + 1) + (match u with | .bool true => 1 | _ => 0)
structure RlxI (s : SupD) (n i k g : Nat) (p : Nat → Int) (w1 : Go.World) (u : Go.Value) (W : Go.World) : Prop where
  out : ∃ (b : Bool) (p' : Nat → Int), u = .bool b ∧ Go.RowKit.Hid (Rlx s n i k p') ∧ Go.RowKit.Hid (RowF W g p' (n + 1)) ∧ Go.RowKit.Hid ((∀ m, m ≤ n → p m = leaV s m) → b = false ∧ ∀ m, m ≤ n → p' m = leaV s m) ∧ Go.RowKit.Hid (Go.RowKit.Below w1.heap.size w1 W)
structure RlxO (s : SupD) (n g : Nat) (w1 : Go.World) (u : Go.Value) (W : Go.World) : Prop where
  out : ∃ (b : Bool) (p : Nat → Int), u = .bool b ∧ Go.RowKit.Hid (Rlx s n 0 1 p) ∧ Go.RowKit.Hid (RowF W g p (n + 1)) ∧ Go.RowKit.Hid (b = false → ∀ m, m ≤ n → p m = leaV s m) ∧ Go.RowKit.Hid (Go.RowKit.Below w1.heap.size w1 W)
end Go.Rl
namespace Go.Proofs.Ytnbnfadmbggfnaa
open Go.RowKit Go.Fh Go.Rl
set_option maxRecDepth 20000 in
set_option maxHeartbeats 4000000 in
theorem rpric_ok (s : SupD) (x : SA) (w : World) (hT : SupAt w w.heap.size s x) (he : errS s = 0) (n : Nat) (hn : n = s.need.length) :
    Calls Try.prog 62 #[.agg #[.slice x.a s.need.length x.ca, .slice x.b s.order.length x.cb, .int .i64 s.keep, .int .i64 s.room]] w fun e w' => ∃ g : Nat, e = .returned (.tuple #[.slice (some ⟨g, 0, none⟩) (n + 1) (n + 1), .int .i64 0]) ∧ w.heap.size ≤ g ∧ Hid (RowF w' g (leaV s) (n + 1)) ∧ Hid (Below w.heap.size w w') := by
  have hs := sup_ok he
  obtain ⟨xa, xca, xb, xcb⟩ := x
  dsimp only at hT ⊢
  obtain ⟨w1, gT, HW1, HGT, HB1, HTB⟩ := sup_box 121 s ⟨xa, xca, xb, xcb⟩ w hT
  obtain ⟨hT1, r0, r1, r2, r3⟩ := HTB.out w1 (Below.refl _ _)
  have hl : s.need.length ≤ 1000000000 ∧ s.order.length ≤ 1000000000 := by have := hs.n1; have := hs.ol; omega
  have HCK := Lib.hid (rchkS_any s ⟨xa, xca, xb, xcb⟩ w1 hl hT1)
  rw [he] at HCK
  have hn20 := hs.n1
  have hn1 := hs.n0
  have hol := hs.ol
  rw [← hn] at hn20 hn1 hol
  have HCV := Lib.hid (fun W (hb : Below w1.heap.size w1 W) (fr tp : Nat) (h1 : fr < tp) (h2 : tp ≤ n) => rcover_any s ⟨xa, xca, xb, xcb⟩ W hs (HTB.out W hb).1 fr tp h1 (by rw [← hn]; exact h2))
  have HS := Lib.hid hs
  have HOL := Lib.hid hol
  clear hol
  unfold supV at *
  dsimp only at r0 r1 r2 r3 HTB HW1 HCK HCV ⊢
  rw [← hn] at r0 HTB HW1 HCK HCV ⊢
  have HN := Lib.hid hn
  clear hT hT1 hs hn he hl
  have N1 : IntKind.i64.wrap ((n : Int) + 1) = (n : Int) + 1 := by rw [IntKind.wrap_i64]; omega
  go_enter Try.func62, Try.ntmps62
  go_upto_region 1 with fail
  rw [← HW1.out, ← HGT.out]
  go_upto_region 5 with (go_at_call 59; with_reducible refine HCK.out.mono ?_; rintro e w2 ⟨rfl, HB2⟩; clear r0 r1 r2 r3; obtain ⟨-, r0, r1, r2, r3⟩ := HTB.out w2 HB2.out)
  have hmk := run_make_row' (P := Try.prog) 47 3 (.int .i64 0) 8 Try.underlying47 infoIntT rfl .i64 .i64 (n + 1) (by omega) (by omega) w2
  obtain ⟨w3, hw3⟩ : ∃ W, W = w2.alloc (.cells (madeCells #[.int .i64 0] (n + 1)) 3) := ⟨_, rfl⟩
  rw [← hw3] at hmk
  obtain ⟨g, hg⟩ : ∃ g, g = w2.heap.size := ⟨_, rfl⟩
  have k1 : Blk w3 g 3 (List.replicate (n + 1) (Value.int .i64 0)).toArray := by
    rw [hw3, hg, ← toList_madeCells_one]
    exact Blk.new w2 3 _
  have hb3 : Below w2.heap.size w2 w3 := by rw [hw3]; exact balR (Below.refl _ _) _
  have hgs : w1.heap.size ≤ g := by have := HB2.out.size; omega
  have HB3 := Lib.hid (bstep HB2.out hb3)
  have HF3 := Lib.hid (show RowF w3 g (fun j => if j < 1 then accV s j else 0) (n + 1) from (rowF_repl k1).congr fun j hj => by
    split
    · rename_i h
      have e : j = 0 := by omega
      subst e; rfl
    · rfl)
  rw [← hg] at hmk
  rw [show ((n + 1 : Nat) : Int) = (n : Int) + 1 from by omega] at hmk
  have HG := Lib.hid hgs
  clear hw3 hg k1 hb3 hgs r0 r1 r2 r3
  go_wp2_with fail
  have hac : ∀ k, 0 ≤ accV s k ∧ accV s k ≤ 1000000 * k := fun k => accV_bd HS.out k
  have HAC := Lib.hid hac
  clear hac hmk
  go_loopw [7] (fun u wr => ∃ k : Nat, 1 ≤ k ∧ k ≤ n + 1 ∧ u = .int .i64 (k : Int) ∧ Hid (RowF wr g (fun j => if j < k then accV s j else 0) (n + 1)) ∧ Hid (Below w1.heap.size w1 wr)) (fun u _ => n + 1 - (intOf u).toNat)
  case atStart => exact ⟨1, Nat.le_refl _, by omega, rfl, HF3, HB3⟩
  case round =>
    obtain ⟨k, hk1, hk2, rfl, HF, HB⟩ := hrel
    by_cases hlt : k ≤ n
    · have hol : k - 1 < s.order.length := by rw [HOL.out]; omega
      obtain ⟨ob, oo, hxb, hob, d0⟩ := (HTB.out wr HB.out).1.cO.at1 hol
      dsimp only at hxb
      rw [← nd_get hol] at d0
      have hacs : accV s k = accV s (k - 1) + nd s.order (k - 1) := by
        have := accV_s s (k - 1)
        rw [show k - 1 + 1 = k by omega] at this; exact this
      have ha1 := HAC.out (k - 1)
      have ha2 := HAC.out k
      obtain ⟨a1, ha⟩ : ∃ a, a = accV s (k - 1) := ⟨_, rfl⟩
      obtain ⟨o1, ho⟩ : ∃ a, a = nd s.order (k - 1) := ⟨_, rfl⟩
      rw [← ha, ← ho] at hacs
      rw [← ho] at d0
      rw [← ha] at ha1
      have c1 : wr.cell? ⟨g, k - 1, none⟩ = some (.int .i64 a1) := by
        have := HF.out.cell (i := k - 1) (by omega)
        rw [if_pos (by omega), ← ha] at this; exact this
      have HS9 := Lib.hid (show ∀ W, wr.grownBy W (some g) → W.cell? ⟨g, k - 1, none⟩ = some (.int .i64 a1) → (W.cell? ⟨g, k - 1, none⟩ = some (.int .i64 a1) ∧ W.cell? ⟨gT, 1, none⟩ = some (.slice xb s.order.length xcb)) ∧ W.cell? ⟨ob, oo + (k - 1), none⟩ = some (.int .i64 o1) from fun W hg hc => by
        have hB : Below w1.heap.size w1 W := HB.out.grown hg HB.out.size (fun j hj => by injection hj with hj; rw [← hj]; exact HG.out)
        obtain ⟨hT9, -, q1, -, -⟩ := HTB.out W hB
        refine ⟨⟨hc, q1⟩, ?_⟩
        obtain ⟨ob', oo', hxb', hob', d0'⟩ := hT9.cO.at1 hol
        dsimp only at hxb'
        rw [hxb] at hxb'
        injection hxb' with e
        injection e with e1 e2
        subst e1; subst e2
        rw [← nd_get hol, ← ho] at d0'
        exact d0')
      have f1 := HF.out.frozen k
      have ck := HF.out.cell (i := k) (by omega)
      have HFN := Lib.hid (show RowF (wr.setCell ⟨g, k, none⟩ (.int .i64 (a1 + o1))) g (fun j => if j < k + 1 then accV s j else 0) (n + 1) from (HF.out.set_ k (a1 + o1)).congr fun j hj => by
        show (if j = k then a1 + o1 else if j < k then accV s j else 0) = if j < k + 1 then accV s j else 0
        by_cases e : j = k
        · subst e; rw [if_pos rfl, if_pos (by omega), hacs]
        · rw [if_neg e]
          by_cases e2 : j < k
          · rw [if_pos e2, if_pos (by omega)]
          · rw [if_neg e2, if_neg (by omega)])
      have HBN := Lib.hid (show Below w1.heap.size w1 (wr.setCell ⟨g, k, none⟩ (.int .i64 (a1 + o1))) from HB.out.setCell (by exact HG.out) _)
      have c1' : (wr.setCell ⟨g, k, none⟩ (.int .i64 (a1 + o1))).cell? ⟨g, k - 1, none⟩ = some (.int .i64 a1) := by
        rw [World.cell?_setCell_other _ _ _ _ (fun e => by injection e with _ e _; omega)]; exact c1
      have HC1 := Lib.hid c1
      have HC1' := Lib.hid c1'
      have HK := Lib.hid (show 1 ≤ k ∧ k ≤ n from ⟨hk1, hlt⟩)
      have s1 : IntKind.i64.wrap (a1 + o1) = a1 + o1 := by rw [IntKind.wrap_i64]; omega
      have HOLE := HOL
      rw [hxb] at HS9
      have HXB := Lib.hid hxb
      clear hacs ha ho d0 c1 c1' ha1 ha2 hob
      subst hxb
      go_upto_region 9 with fail
      have j0 : (0 : Int) ≤ (k : Int) := by have := HK.out; omega
      have j1 : (k : Int) < (n : Int) + 1 := by have := HK.out; omega
      have j2 : (0 : Int) ≤ (k : Int) - 1 := by have := HK.out; omega
      have j3 : (1 : Int) ≤ (k : Int) := by have := HK.out; omega
      have j4 : (k : Int) - 1 < (n : Int) + 1 := by have := HK.out; omega
      have j5 : (k : Int) - 1 < (s.order.length : Int) := by have := HK.out; have := HOLE.out; omega
      have j6 : IntKind.i64.wrap ((k : Int) - 1) = (k : Int) - 1 := by have := HK.out; rw [IntKind.wrap_i64]; omega
      have j7 : (1 : Nat) ≤ k := HK.out.1
      have j8 : ((k : Int) - 1).toNat = k - 1 := by have := HK.out; omega
      go_region_held3 (fun W => (W.cell? ⟨g, k - 1, none⟩ = some (.int .i64 a1) ∧ W.cell? ⟨gT, 1, none⟩ = some (.slice (some ⟨ob, oo, none⟩) s.order.length xcb)) ∧ W.cell? ⟨ob, oo + (k - 1), none⟩ = some (.int .i64 o1))
        (first | (refine HS9.out _ ?_ HC1.out; (repeat (with_reducible first | exact gr_refl _ _ | refine gr_drew ?_)); done) | (refine HS9.out _ ?_ HC1'.out; (repeat (with_reducible first | exact gr_refl _ _ | refine gr_drew ?_ | exact gr_set _ _ _ _)); done))
        (fail)
      go_wp2_with fail
      go_roundw
      case rel => exact ⟨k + 1, by omega, by have := HK.out; omega, by go_num, HFN, Lib.hid (HBN.out.drew)⟩
      case measure => simp [intOf]; have := HK.out; omega
    · have hkn : k = n + 1 := by omega
      subst hkn
      have HF0 := Lib.hid (HF.out.congr (f' := accV s) fun j hj => by
        show (if j < n + 1 then accV s j else 0) = accV s j
        rw [if_pos hj])
      have HB0 := HB
      clear HF HB
      have hrl : Rlx s n 0 1 (fun m => if m ≤ n then accV s m else 0) := by
        refine ⟨?_, fun m hm => ?_, fun m => ?_, fun i' h => by omega, fun k' a b => by omega⟩
        · show (if 0 ≤ n then accV s 0 else 0) = 0
          rw [if_pos (by omega)]; rfl
        · show leaV s m ≤ (if m ≤ n then accV s m else 0)
          rw [if_pos hm]; exact lea_acc HS.out m (by omega)
        · show (if m ≤ n then accV s m else 0) ≤ 20000000
          split
          · have := (HAC.out m).2; omega
          · omega
      have HRL := Lib.hid hrl
      have HF1 := Lib.hid (HF0.out.congr (f' := fun m => if m ≤ n then accV s m else 0) fun j hj => by
        show accV s j = if j ≤ n then accV s j else 0
        rw [if_pos (by omega)])
      have n9 : ¬ ((n : Int) + 1 ≤ (n : Int)) := by omega
      have n8 : ((n : Int) < (n : Int) + 1) ↔ True := by constructor <;> intro h <;> first | trivial | omega
      clear hrl HF0
      go_wp2_with fail
      clear n9 n8
      go_loopw [8] (fun u wq => RlxO s n g w1 u wq) (fun u wq => rlxM s n g u wq)
      case atStart => exact ⟨true, _, rfl, HRL, HF1, Lib.hid (by simp), HB0⟩
      case round =>
        clear HRL HF1
        obtain ⟨b, p, rfl, HRL, HF, HLE, HB⟩ := hrel.out
        cases b
        · have HF9 := Lib.hid (HF.out.congr fun j hj => HLE.out rfl j (by omega))
          go_wp2_with fail
          go_ret2
          exact ⟨g, rfl, Nat.le_trans HB1.out.size HG.out, HF9, Lib.hid (HB1.out.trans (HB.out.mono HB1.out.size))⟩
        · obtain ⟨wo, hwo⟩ : ∃ W, W = wr := ⟨_, rfl⟩
          have HWO := Lib.hid hwo
          clear hwo
          go_wp2_with fail
          go_loopw [8, 9] (fun u8 u wq => ∃ (i : Nat), i ≤ n ∧ u = .int .i64 (i : Int) ∧ RlxI s n i (i + 1) g p w1 u8 wq) (fun _ u _ => n - (intOf u).toNat)
          case atStart => exact ⟨0, Nat.zero_le _, rfl, ⟨false, p, rfl, HRL, HF, Lib.hid (fun h => ⟨rfl, h⟩), HB⟩⟩
          case round =>
            obtain ⟨i, hi, rfl, ⟨⟨b, p1, rfl, HR1, HF1, HQ1, HB1'⟩⟩⟩ := hrel
            by_cases hlt : i < n
            · have i0 : (0 : Int) ≤ (i : Int) := by omega
              have i1 : (i : Int) < (n : Int) := by omega
              have i2 : (i : Int) < (n : Int) + 1 := by omega
              have i3 : IntKind.i64.wrap ((i : Int) + 1) = (i : Int) + 1 := by rw [IntKind.wrap_i64]; omega
              go_wp2_with fail
              go_loopw [8, 10] (fun u8 u wq => ∃ (k : Nat), i < k ∧ k ≤ n + 1 ∧ u = .int .i64 (k : Int) ∧ RlxI s n i k g p w1 u8 wq) (fun _ u _ => n + 1 - (intOf u).toNat)
              case atStart => exact ⟨i + 1, by omega, by omega, by go_num, ⟨b, p1, rfl, HR1, HF1, HQ1, HB1'⟩⟩
              case round =>
                obtain ⟨k, hik, hk2, rfl, ⟨⟨b2, p2, rfl, HR2, HF2, HQ2, HB2'⟩⟩⟩ := hrel
                by_cases hlk : k ≤ n
                · have k0 : (0 : Int) ≤ (k : Int) := by omega
                  have k1 : (k : Int) < (n : Int) + 1 := by omega
                  have k2 : (k : Int) ≤ (n : Int) := by omega
                  have H102 := Lib.hid (HCV.out wr HB2'.out i k hik hlk)
                  have hcb := covC_bd HS.out (fr := i) (tp := k) (by omega)
                  have hri := rlx_at HS.out (by omega) HR2.out (show i ≤ n by omega)
                  have hup := HR2.out.up k
                  have hlow := HR2.out.low k hlk
                  have hupi := HR2.out.up i
                  have hnn := leaV_nn HS.out i (by omega)
                  have HSK := Lib.hid (rlx_skip HR2.out)
                  have HST := Lib.hid (show ∀ c, cov s i k = some c → leaV s i + c < p2 k → Rlx s n i (k + 1) (fun m => if m = k then leaV s i + c else p2 m) from fun c hc hlt => rlx_set HS.out (by omega) HR2.out hik hlk hc hlt)
                  have HLW := Lib.hid (show ∀ c, cov s i k = some c → leaV s k ≤ leaV s i + c from fun c hc => leaV_low HS.out (by omega) hik hc)
                  have HCN := Lib.hid (show covB s i k = false → cov s i k = none from fun h => cov_none h)
                  have HCY := Lib.hid (show covB s i k = true → cov s i k = some (covC s i k) from fun h => cov_some h)
                  obtain ⟨ok, hok⟩ : ∃ q, q = covB s i k := ⟨_, rfl⟩
                  obtain ⟨cc, hcc⟩ : ∃ q, q = covC s i k := ⟨_, rfl⟩
                  rw [← hok] at H102 HCN HCY
                  rw [← hcc] at H102 hcb HCY
                  obtain ⟨lf, hlf⟩ : ∃ q, q = leaV s i := ⟨_, rfl⟩
                  obtain ⟨pk, hpk⟩ : ∃ q, q = p2 k := ⟨_, rfl⟩
                  rw [← hlf] at hri hnn HST HLW HSK
                  rw [← hpk] at hup HST HSK
                  have HPK := Lib.hid hpk
                  have HRI := Lib.hid hri
                  have sw : IntKind.i64.wrap (lf + cc) = lf + cc := by rw [IntKind.wrap_i64]; omega
                  obtain ⟨tt, htt⟩ : ∃ q, q = decide (lf + cc < pk) := ⟨_, rfl⟩
                  have htt' := htt.symm
                  have HTT := Lib.hid htt
                  obtain ⟨-, r0, r1, r2, r3⟩ := HTB.out wr HB2'.out
                  clear hok hcc hlf hpk htt hri hup hlow
                  go_upto_region 20 with (go_at_call 102; with_reducible refine H102.out.mono ?_; rintro e w5 ⟨rfl, hb5⟩; have HB5 := Lib.hid (bstep HB2'.out hb5.out); have HF5 := Lib.hid (HF2.out.below hb5.out); clear hb5 r0 r1 r2 r3)
                  have d1 := HF5.out.cell (i := i) (by omega)
                  have d2 := HF5.out.cell (i := k) (by omega)
                  have fk := HF5.out.frozen k
                  rw [HRI.out] at d1
                  rw [← HPK.out] at d2
                  cases ok
                  · have HN1 := Lib.hid (HSK.out (fun c hc => by rw [HCN.out rfl] at hc; cases hc))
                    clear htt'
                    go_quiet (fail)
                    go_wp2_with fail
                    go_roundw
                    case rel => exact ⟨k + 1, by omega, by omega, by go_num, ⟨b2, p2, rfl, HN1, Lib.hid (HF5.out.drewN _), HQ2, Lib.hid (below_drewN HB5.out _)⟩⟩
                    case measure => simp [intOf]; omega
                  · cases tt
                    · have HN1 := Lib.hid (HSK.out (fun c hc => by
                        rw [HCY.out rfl] at hc
                        injection hc with hc
                        have := HTT.out
                        simp at this
                        omega))
                      go_quiet (fail)
                      go_wp2_with fail
                      go_roundw
                      case rel => exact ⟨k + 1, by omega, by omega, by go_num, ⟨b2, p2, rfl, HN1, Lib.hid (HF5.out.drewN _), HQ2, Lib.hid (below_drewN HB5.out _)⟩⟩
                      case measure => simp [intOf]; omega
                    · have hlt2 : lf + cc < pk := by have := HTT.out; simp at this; exact this
                      have HN1 := Lib.hid (HST.out cc (HCY.out rfl) hlt2)
                      have HNQ := Lib.hid (show (∀ m, m ≤ n → p m = leaV s m) → true = false ∧ ∀ m, m ≤ n → (fun m => if m = k then lf + cc else p2 m) m = leaV s m from fun hq => by
                        have h1 := (HQ2.out hq).2 k hlk
                        have h2 := HLW.out cc (HCY.out rfl)
                        rw [← HPK.out] at h1
                        omega)
                      clear hlt2
                      go_quiet (fail)
                      go_wp2_with fail
                      go_roundw
                      case rel => exact ⟨k + 1, by omega, by omega, by go_num, ⟨true, _, rfl, HN1, Lib.hid ((HF5.out.drewN _).set_ k (lf + cc)), HNQ, Lib.hid ((below_drewN HB5.out _).setCell (by exact HG.out) _)⟩⟩
                      case measure => simp [intOf]; omega
                · have hkn2 : k = n + 1 := by omega
                  subst hkn2
                  have HN1 := Lib.hid (rlx_next HR2.out)
                  go_wp2_with fail
                  go_roundw
                  case rel => exact ⟨i + 1, by omega, by go_num, ⟨b2, p2, rfl, HN1, HF2, HQ2, HB2'⟩⟩
                  case measure => simp [intOf]; omega
            · obtain rfl : i = n := by omega
              have HAL := Lib.hid (rlx_all HS.out hn20 HR1.out)
              have HNR := Lib.hid (show Rlx s i 0 1 p1 from ⟨HR1.out.z, HR1.out.low, HR1.out.up, fun i' h => by omega, fun k' a b => by omega⟩)
              have HME := Lib.hid (show rlxM s i g (.bool b) wr < rlxM s i g (.bool true) wo from by
                have h1 : dsum (fun m => (intOf ((wr.cell? ⟨g, m, none⟩).getD undef) - leaV s m).toNat) (i + 1) = 0 := dsum_zero _ fun m hm => by
                  rw [HF1.out.cell hm, HAL.out m (by omega)]
                  simp [intOf]
                unfold rlxM
                rw [h1]
                cases b
                · simp
                · have hne : ¬ (∀ m, m ≤ i → p m = leaV s m) := fun hq => by have := (HQ1.out hq).1; simp at this
                  have hex : ∃ m, m ≤ i ∧ p m ≠ leaV s m := by
                    apply Classical.byContradiction
                    intro hno
                    exact hne fun m hm => Classical.byContradiction fun h => hno ⟨m, hm, h⟩
                  obtain ⟨m, hm, hpm⟩ := hex
                  have hlo := HRL.out.low m hm
                  have hFo : RowF wo g p (i + 1) := by rw [HWO.out]; exact HF.out
                  have h2 : 0 < dsum (fun m => (intOf ((wo.cell? ⟨g, m, none⟩).getD undef) - leaV s m).toNat) (i + 1) := dsum_pos _ m (by omega) (by
                    rw [hFo.cell (by omega)]
                    simp [intOf]; omega)
                  simp; omega)
              go_wp2_with fail
              rw [← HWO.out]
              go_roundw
              case rel => exact ⟨b, p1, rfl, HNR, HF1, Lib.hid (fun _ => HAL.out), HB1'⟩
              case measure => exact HME.out
end Go.Proofs.Ytnbnfadmbggfnaa
