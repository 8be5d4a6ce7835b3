/- Presses in memory; contracts of gives, total and reach; conditions: reels that are right. Printed by a program. -/
import Derived.Test.YtnbnfadmbggfnaaA2
import Derived.Deep.RegionLaw
set_option linter.unusedSimpArgs false
set_option linter.unusedVariables false
namespace Go.Rl
open Go.Fh Go.RowKit
structure ReelD where
  id : Int
  width : Int
  len : Int
  core : Int
structure WebD where
  reels : List ReelD
  off : Int
  bef : Int
  aft : Int
structure PrsD where
  cut : Int
  margin : Int
  webs : List WebD
def encReel (r : ReelD) : List Go.Value := [.int .i64 r.id, .int .i64 r.width, .int .i64 r.len, .int .i64 r.core]
/-- a web, and where its reels lie -/
abbrev WebM := WebD × (Option Go.Addr × Nat)
def encWeb (m : WebM) : List Go.Value := [.slice m.2.1 m.1.reels.length m.2.2, .int .i64 m.1.off, .int .i64 m.1.bef, .int .i64 m.1.aft]
structure PrsAt (w : Go.World) (B : Nat) (p : PrsD) (A : Option Go.Addr) (ms : List WebM) : Prop where
  cW : Sl encWeb 4 w B A ms
  eq : ms.map (·.1) = p.webs
  cR : ∀ i (h : i < ms.length), Sl encReel 4 w B ms[i].2.1 ms[i].1.reels
section
variable {w w' : Go.World} {B B' : Nat} {p : PrsD} {A : Option Go.Addr} {ms : List WebM}
theorem PrsAt.below (h : PrsAt w B p A ms) (hb : Below B w w') : PrsAt w' B p A ms := ⟨h.cW.below hb, h.eq, fun i hi => (h.cR i hi).below hb⟩
theorem PrsAt.mono (h : PrsAt w B p A ms) (hb : B ≤ B') : PrsAt w B' p A ms := ⟨h.cW.mono hb, h.eq, fun i hi => (h.cR i hi).mono hb⟩
theorem PrsAt.step (h : PrsAt w w.heap.size p A ms) (hb : Below w.heap.size w w') : PrsAt w' w'.heap.size p A ms := (h.below hb).mono hb.size
theorem PrsAt.len (h : PrsAt w B p A ms) : ms.length = p.webs.length := by rw [← h.eq]; simp
end
theorem reel_at {B : Nat} {w : Go.World} {A : Option Go.Addr} {l : List ReelD} (h : Sl encReel 4 w B A l) {k : Nat} (hk : k < l.length) :
    ∃ b off, A = some ⟨b, off, none⟩ ∧ b < B ∧ w.cell? ⟨b, off + k * 4, none⟩ = some (.int .i64 l[k].id) ∧ w.cell? ⟨b, off + k * 4 + 1, none⟩ = some (.int .i64 l[k].width) ∧ w.cell? ⟨b, off + k * 4 + 2, none⟩ = some (.int .i64 l[k].len) ∧ w.cell? ⟨b, off + k * 4 + 3, none⟩ = some (.int .i64 l[k].core) := by
  obtain ⟨b, off, hA, hb, hc⟩ := h.at_ hk
  exact ⟨b, off, hA, hb, hc 0 _ rfl, hc 1 _ rfl, hc 2 _ rfl, hc 3 _ rfl⟩
theorem web_at {B : Nat} {w : Go.World} {A : Option Go.Addr} {l : List WebM} (h : Sl encWeb 4 w B A l) {k : Nat} (hk : k < l.length) :
    ∃ b off, A = some ⟨b, off, none⟩ ∧ b < B ∧ w.cell? ⟨b, off + k * 4, none⟩ = some (.slice l[k].2.1 l[k].1.reels.length l[k].2.2) ∧ w.cell? ⟨b, off + k * 4 + 1, none⟩ = some (.int .i64 l[k].1.off) ∧ w.cell? ⟨b, off + k * 4 + 2, none⟩ = some (.int .i64 l[k].1.bef) ∧ w.cell? ⟨b, off + k * 4 + 3, none⟩ = some (.int .i64 l[k].1.aft) := by
  obtain ⟨b, off, hA, hb, hc⟩ := h.at_ hk
  exact ⟨b, off, hA, hb, hc 0 _ rfl, hc 1 _ rfl, hc 2 _ rfl, hc 3 _ rfl⟩
/-- what a reel gives -/
def giv (r : ReelD) : Int := r.len - r.core
structure ReelOk (r : ReelD) : Prop where
  i0 : 0 ≤ r.id
  i1 : r.id ≤ 1000000
  c0 : 0 ≤ r.core
  c1 : r.core ≤ r.len
  l1 : r.len ≤ 20000000
/-- what the first reels of a web give -/
def gsum (l : List ReelD) : Nat → Int
  | 0 => 0
  | k + 1 => gsum l k + ((l[k]?).map giv).getD 0
theorem gsum_s {l : List ReelD} {k : Nat} (h : k < l.length) : gsum l (k + 1) = gsum l k + giv l[k] := by simp [gsum, h]
theorem gsum_bd {l : List ReelD} (h : ∀ r ∈ l, ReelOk r) : ∀ k, 0 ≤ gsum l k ∧ gsum l k ≤ 20000000 * k := by
  intro k
  induction k with
  | zero => simp [gsum]
  | succ k ih =>
    by_cases hk : k < l.length
    · rw [gsum_s hk]
      have := h l[k] (List.getElem_mem hk)
      have a := this.c0; have b := this.c1; have c := this.l1
      unfold giv
      omega
    · have : gsum l (k + 1) = gsum l k := by simp [gsum, List.getElem?_eq_none (show l.length ≤ k by omega)]
      rw [this]; omega
def totW (v : WebD) : Int := gsum v.reels v.reels.length
structure WebOk (v : WebD) : Prop where
  n : v.reels.length ≤ 20
  o0 : 0 ≤ v.off
  o1 : v.off ≤ 200000
  b0 : 0 ≤ v.bef
  b1 : v.bef ≤ 5000
  a0 : 0 ≤ v.aft
  a1 : v.aft ≤ 5000
  r : ∀ x ∈ v.reels, ReelOk x
structure PrsOk (p : PrsD) : Prop where
  c0 : 300 ≤ p.cut
  c1 : p.cut ≤ 1500
  m0 : 0 ≤ p.margin
  m1 : p.margin ≤ 20
  n0 : 1 ≤ p.webs.length
  n1 : p.webs.length ≤ 6
  w : ∀ v ∈ p.webs, WebOk v
/-- how many copies a web prints -/
def webN (cut : Int) (v : WebD) : Int := max (totW v - v.off) 0 / cut
def rchK (p : PrsD) : Nat → Int
  | 0 => 1000000
  | k + 1 => min (rchK p k) (((p.webs[k]?).map (webN p.cut)).getD 1000000)
def rchP (p : PrsD) : Int := rchK p p.webs.length
theorem rchK_s {p : PrsD} {k : Nat} (h : k < p.webs.length) : rchK p (k + 1) = min (rchK p k) (webN p.cut p.webs[k]) := by simp [rchK, h]
theorem totW_bd {v : WebD} (h : WebOk v) : 0 ≤ totW v ∧ totW v ≤ 400000000 := by
  have := gsum_bd h.r v.reels.length
  have := h.n
  unfold totW; omega
theorem webN_bd {v : WebD} (h : WebOk v) {cut : Int} (hc : 300 ≤ cut) : 0 ≤ webN cut v ∧ webN cut v ≤ 400000000 := by
  have h1 := totW_bd h
  have h2 := h.o0
  unfold webN
  have hx : 0 ≤ max (totW v - v.off) 0 ∧ max (totW v - v.off) 0 ≤ 400000000 := by omega
  refine ⟨Int.ediv_nonneg hx.1 (by omega), ?_⟩
  exact Int.le_trans (Int.ediv_le_self _ hx.1) hx.2
theorem rchK_bd {p : PrsD} (h : PrsOk p) : ∀ k, k ≤ p.webs.length → 0 ≤ rchK p k ∧ rchK p k ≤ 1000000 := by
  intro k
  induction k with
  | zero => intro _; simp [rchK]
  | succ k ih =>
    intro hk
    have := ih (by omega)
    rw [rchK_s (by omega)]
    have := webN_bd (h.w p.webs[k] (List.getElem_mem (by omega))) h.c0
    omega
end Go.Rl
namespace Go.Proofs.Ytnbnfadmbggfnaa
open Go.RowKit Go.Fh Go.Rl
set_option maxRecDepth 20000 in
set_option maxHeartbeats 4000000 in
theorem gives_any (r : ReelD) (w : World) (hr : ReelOk r) :
    Calls Try.prog 51 #[.agg #[.int .i64 r.id, .int .i64 r.width, .int .i64 r.len, .int .i64 r.core]] w fun e w' => e = .returned (.int .i64 (giv r)) ∧ Hid (Below w.heap.size w w') := by
  have h0 := hr.c0
  have h1 := hr.c1
  have h2 := hr.l1
  have hw : IntKind.i64.wrap (r.len - r.core) = r.len - r.core := by rw [IntKind.wrap_i64]; omega
  clear hr
  go_enter Try.func51, Try.ntmps51
  go_wp2_with fail
  go_ret
  exact ⟨ret_int rfl, Lib.hid (balR (Below.refl _ _) _)⟩
set_option maxRecDepth 20000 in
set_option maxHeartbeats 4000000 in
theorem total_any (v : WebD) (A : Option Addr) (c : Nat) (w : World) (hv : WebOk v) (hA : Sl encReel 4 w w.heap.size A v.reels) :
    Calls Try.prog 88 #[.agg #[.slice A v.reels.length c, .int .i64 v.off, .int .i64 v.bef, .int .i64 v.aft]] w fun e w' => e = .returned (.int .i64 (totW v)) ∧ Hid (Below w.heap.size w w') := by
  obtain ⟨w1, hw1⟩ : ∃ W, W = w.alloc (.cells #[.slice A v.reels.length c, .int .i64 v.off, .int .i64 v.bef, .int .i64 v.aft] 41) := ⟨_, rfl⟩
  obtain ⟨gT, hgT⟩ : ∃ g, g = w.heap.size := ⟨_, rfl⟩
  have hb1 : Below w.heap.size w w1 := by rw [hw1]; exact balR (Below.refl _ _) _
  have kT : Blk w1 gT 41 #[.slice A v.reels.length c, .int .i64 v.off, .int .i64 v.bef, .int .i64 v.aft] := by rw [hw1, hgT]; exact Blk.new _ _ _
  have r0 := kT.cell 0
  simp at r0
  have HA := Lib.hid (fun W (hb : Below w1.heap.size w1 W) => (hA.below (hb1.trans (hb.mono hb1.size))).mono ((hb1.trans (hb.mono hb1.size)).size))
  have HV := Lib.hid hv
  have HW1 := Lib.hid hw1
  have HGT := Lib.hid hgT
  have HB1 := Lib.hid hb1
  obtain ⟨n, hn⟩ : ∃ n, n = v.reels.length := ⟨_, rfl⟩
  have hn20 := hv.n
  have HTW := Lib.hid (show totW v = gsum v.reels n by rw [hn]; rfl)
  rw [← hn] at r0 HW1 hn20 ⊢
  have HN := Lib.hid hn
  clear hw1 hgT hb1 kT hA hv hn
  go_enter Try.func88, Try.ntmps88
  go_upto_region 1 with fail
  rw [← HW1.out, ← HGT.out]
  go_wp2_with fail
  clear r0
  go_loopw [3, 9] (fun u i wr => ∃ k : Nat, k ≤ n ∧ i = .int .i64 (k : Int) ∧ u = .int .i64 (gsum v.reels k) ∧ Hid (Below w1.heap.size w1 wr)) (fun _ i _ => n - (intOf i).toNat)
  case atStart => exact ⟨0, Nat.zero_le _, rfl, rfl, Below.refl _ _⟩
  case round =>
    obtain ⟨k, hk, rfl, rfl, HB⟩ := hrel
    by_cases hlt : k < n
    · have hkl : k < v.reels.length := by have := HN.out; omega
      obtain ⟨b, off, hba, hbb, c0, c1, c2, c3⟩ := reel_at (HA.out wr HB.out) hkl
      subst hba
      have hro := HV.out.r _ (List.getElem_mem hkl)
      have hgs := gsum_s hkl
      have hgb := gsum_bd HV.out.r k
      have hgb2 := gsum_bd HV.out.r (k + 1)
      obtain ⟨r, hr⟩ : ∃ r, r = v.reels[k] := ⟨_, rfl⟩
      rw [← hr] at c0 c1 c2 c3 hro hgs
      obtain ⟨sk, hsk⟩ : ∃ z, z = gsum v.reels k := ⟨_, rfl⟩
      rw [← hsk] at hgb hgs ⊢
      obtain ⟨g, hg⟩ : ∃ z, z = giv r := ⟨_, rfl⟩
      have G51 := Lib.hid (fun W => gives_any r W hro)
      rw [← hg] at G51 hgs
      rw [hgs] at hgb2
      have sw : IntKind.i64.wrap (sk + g) = sk + g := by rw [IntKind.wrap_i64]; omega
      have i0 : (0 : Int) ≤ (k : Int) := by omega
      have i1 : (k : Int) < (n : Int) := by omega
      have HGS := Lib.hid hgs
      have hsz := HB.out.size
      clear hr hsk hg hgs
      go_wp2_with (go_at_call 51; with_reducible refine (G51.out _).mono ?_; rintro e w5 ⟨rfl, hb5⟩; have HB5 := Lib.hid ((HB.out.alloc hsz (.cells #[.int .i64 r.id, .int .i64 r.width, .int .i64 r.len, .int .i64 r.core] 54)).trans (hb5.out.mono (by simp; omega))); clear hb5)
      go_roundw
      case rel => exact ⟨k + 1, by omega, by go_num, by rw [HGS.out], HB5⟩
      case measure => simp [intOf]; omega
    · obtain rfl : k = n := by omega
      go_wp2_with fail
      go_ret
      exact ⟨by rw [HTW.out]; rfl, Lib.hid (HB1.out.trans (HB.out.mono HB1.out.size))⟩
theorem prs_box (p : PrsD) (A : Option Addr) (c m : Nat) (ms : List WebM) (w : World) (hT : PrsAt w w.heap.size p A ms) : ∃ w1 gT, Hid (w1 = w.alloc (.cells #[.int .i64 p.cut, .int .i64 p.margin, .slice A m c] 26)) ∧ Hid (gT = w.heap.size) ∧ Hid (Below w.heap.size w w1) ∧ Hid (∀ W, Below w1.heap.size w1 W → PrsAt W W.heap.size p A ms ∧ W.cell? ⟨gT, 0, none⟩ = some (.int .i64 p.cut) ∧ W.cell? ⟨gT, 1, none⟩ = some (.int .i64 p.margin) ∧ W.cell? ⟨gT, 2, none⟩ = some (.slice A m c)) := by
  refine ⟨_, w.heap.size, rfl, rfl, (Below.refl _ _).alloc (Nat.le_refl _) _, Lib.hid fun W hb => ?_⟩
  have hb1 := (Below.refl w.heap.size w).alloc (Nat.le_refl _) (.cells #[.int .i64 p.cut, .int .i64 p.margin, .slice A m c] 26)
  have kT := Blk.new w 26 #[.int .i64 p.cut, .int .i64 p.margin, .slice A m c]
  have hgl := kT.lt
  have r0 := (kT.below hb hgl).cell 0
  have r1 := (kT.below hb hgl).cell 1
  have r2 := (kT.below hb hgl).cell 2
  simp at r0 r1 r2
  exact ⟨hT.step (hb1.trans (hb.mono hb1.size)), r0, r1, r2⟩
set_option maxRecDepth 20000 in
set_option maxHeartbeats 4000000 in
theorem reach_any (p : PrsD) (A : Option Addr) (c m : Nat) (ms : List WebM) (w : World) (hp : PrsOk p) (hT : PrsAt w w.heap.size p A ms) (hm : m = ms.length) :
    Calls Try.prog 40 #[.agg #[.int .i64 p.cut, .int .i64 p.margin, .slice A m c]] w fun e w' => e = .returned (.int .i64 (rchP p)) ∧ Hid (Below w.heap.size w w') := by
  obtain ⟨w1, gT, HW1, HGT, HB1, HTB⟩ := prs_box p A c m ms w hT
  obtain ⟨hT1, r0, r1, r2⟩ := HTB.out w1 (Below.refl _ _)
  have hml : m = p.webs.length := by rw [hm, hT.len]
  have hm6 := hp.n1
  rw [← hml] at hm6
  have HRP := Lib.hid (show rchP p = rchK p m by rw [hml]; rfl)
  have HP := Lib.hid hp
  have HM := Lib.hid hm
  have HML := Lib.hid hml
  have hc0 := hp.c0
  have hc1 := hp.c1
  clear hT hT1 hp hm hml
  go_enter Try.func40, Try.ntmps40
  go_upto_region 1 with fail
  rw [← HW1.out, ← HGT.out]
  go_wp2_with fail
  clear r0 r1 r2
  go_loopw [3, 9] (fun u i wr => ∃ k : Nat, k ≤ m ∧ i = .int .i64 (k : Int) ∧ u = .int .i64 (rchK p k) ∧ Hid (Below w1.heap.size w1 wr)) (fun _ i _ => m - (intOf i).toNat)
  case atStart => exact ⟨0, Nat.zero_le _, rfl, rfl, Below.refl _ _⟩
  case round =>
    obtain ⟨k, hk, rfl, rfl, HB⟩ := hrel
    by_cases hlt : k < m
    · have hkm : k < ms.length := by have := HM.out; omega
      have hkp : k < p.webs.length := by have := HML.out; omega
      have hT2 := (HTB.out wr HB.out).1
      obtain ⟨b, off, hba, hbb, c0, c1, c2, c3⟩ := web_at hT2.cW hkm
      subst hba
      have hwe : ms[k].1 = p.webs[k] := by
        have h1 : (ms.map (·.1))[k]'(by simpa using hkm) = p.webs[k] := List.getElem_of_eq hT2.eq _
        rw [List.getElem_map] at h1; exact h1
      have hwo := HP.out.w p.webs[k] (List.getElem_mem hkp)
      have hcr := hT2.cR k hkm
      have hrs := rchK_s hkp
      have hrb := rchK_bd HP.out k (by omega)
      rw [← hwe] at hwo hrs
      obtain ⟨⟨v, vA, vc⟩, hv⟩ : ∃ v, v = ms[k] := ⟨_, rfl⟩
      rw [← hv] at c0 c1 c2 c3 hwo hrs hcr
      dsimp only at c0 c1 c2 c3 hwo hrs hcr
      have htb := totW_bd hwo
      have hwb := webN_bd hwo hc0
      have ho0 := hwo.o0
      have ho1 := hwo.o1
      obtain ⟨rk, hrk⟩ : ∃ z, z = rchK p k := ⟨_, rfl⟩
      rw [← hrk] at hrs hrb ⊢
      obtain ⟨g5, hg5⟩ : ∃ g, g = wr.heap.size := ⟨_, rfl⟩
      obtain ⟨w5, hw5⟩ : ∃ W, W = wr.alloc (.cells #[.slice vA v.reels.length vc, .int .i64 v.off, .int .i64 v.bef, .int .i64 v.aft] 41) := ⟨_, rfl⟩
      have k5 : Blk w5 g5 41 #[.slice vA v.reels.length vc, .int .i64 v.off, .int .i64 v.bef, .int .i64 v.aft] := by rw [hw5, hg5]; exact Blk.new _ _ _
      have hb5 : Below wr.heap.size wr w5 := by rw [hw5]; exact balR (Below.refl _ _) _
      have HB5 := Lib.hid (HB.out.trans (hb5.mono HB.out.size))
      have H88 := Lib.hid (fun W (hb : Below w5.heap.size w5 W) => total_any v vA vc W hwo ((hcr.below (hb5.trans (hb.mono hb5.size))).mono ((hb5.trans (hb.mono hb5.size)).size)))
      have HSB := Lib.hid (show ∀ W, Below w5.heap.size w5 W → (W.cell? ⟨g5, 0, none⟩ = some (.slice vA v.reels.length vc) ∧ W.cell? ⟨g5, 1, none⟩ = some (.int .i64 v.off) ∧ W.cell? ⟨g5, 2, none⟩ = some (.int .i64 v.bef) ∧ W.cell? ⟨g5, 3, none⟩ = some (.int .i64 v.aft)) ∧ W.cell? ⟨gT, 0, none⟩ = some (.int .i64 p.cut) from fun W hb => by
        have k := k5.below hb k5.lt
        have a0 := k.cell 0
        have a1 := k.cell 1
        have a2 := k.cell 2
        have a3 := k.cell 3
        simp at a0 a1 a2 a3
        exact ⟨⟨a0, a1, a2, a3⟩, (HTB.out W (HB5.out.trans (hb.mono HB5.out.size))).2.1⟩)
      obtain ⟨tv, htv⟩ : ∃ z, z = totW v := ⟨_, rfl⟩
      have hwn : webN p.cut v = max (tv - v.off) 0 / p.cut := by rw [htv]; rfl
      rw [hwn] at hrs hwb
      rw [← htv] at htb H88
      have sw1 : IntKind.i64.wrap (tv - v.off) = tv - v.off := by rw [IntKind.wrap_i64]; omega
      have sw2 : IntKind.i64.wrap (max (tv - v.off) 0 / p.cut) = max (tv - v.off) 0 / p.cut := by rw [IntKind.wrap_i64]; omega
      have hdv : IntKind.i64.wrap ((max (tv - v.off) 0).tdiv p.cut) = max (tv - v.off) 0 / p.cut := by rw [Int.tdiv_eq_ediv_of_nonneg (by omega)]; exact sw2
      have hz1 : (p.cut == 0) = false := by simp; omega
      have hz2 : ¬ p.cut = 0 := by omega
      have sw3 : (0 : Int) ≤ max (tv - v.off) 0 := by omega
      have sw4 : max (tv - v.off) 0 ≤ 400000000 := by omega
      have HRS := Lib.hid hrs
      have HW5 := Lib.hid hw5
      have HG5 := Lib.hid hg5
      have i0 : (0 : Int) ≤ (k : Int) := by omega
      have i1 : (k : Int) < (m : Int) := by omega
      clear hwe hv hrs hrk hw5 hg5 k5 hb5 hcr htv hwn hT2
      go_upto_region 5 with fail
      rw [← HW5.out, ← HG5.out]
      clear c0 c1 c2 c3
      go_region_held3 (fun W => (W.cell? ⟨g5, 0, none⟩ = some (.slice vA v.reels.length vc) ∧ W.cell? ⟨g5, 1, none⟩ = some (.int .i64 v.off) ∧ W.cell? ⟨g5, 2, none⟩ = some (.int .i64 v.bef) ∧ W.cell? ⟨g5, 3, none⟩ = some (.int .i64 v.aft)) ∧ W.cell? ⟨gT, 0, none⟩ = some (.int .i64 p.cut))
        ((refine HSB.out _ ?_; (repeat (with_reducible first | exact Below.refl _ _ | exact HB6.out | refine Below.drew ?_)); done))
        ((go_at_call 88; with_reducible refine (H88.out _ (by repeat (with_reducible first | exact Below.refl _ _ | refine Below.drew ?_))).mono ?_; rintro e w6 ⟨rfl, hb6⟩; have HB6 := Lib.hid (Below.trans (show Below w5.heap.size w5 _ from by repeat (with_reducible first | exact Below.refl _ _ | refine Below.drew ?_)) (hb6.out.mono (by first | exact Nat.le_refl _ | simp))); clear hb6))
      go_wp2_with fail
      go_roundw
      case rel => exact ⟨k + 1, by omega, by go_num, by rw [HRS.out], Lib.hid (HB5.out.trans (HB6.out.mono HB5.out.size))⟩
      case measure => simp [intOf]; omega
    · obtain rfl : k = m := by omega
      go_wp2_with fail
      go_ret
      exact ⟨by rw [HRP.out]; rfl, Lib.hid (HB1.out.trans (HB.out.mono HB1.out.size))⟩
end Go.Proofs.Ytnbnfadmbggfnaa
