/- Contract of keyOf: an array of variants as a key; conditions: at most 64 small variants. -/
import Derived.Test.YtokdleanpkkdpaaC2
import Derived.Test.YtokdleanpkkdpaaMapsA
import Derived.Deep.MidRow
import Derived.Outline
set_option linter.unusedSimpArgs false
set_option linter.unusedVariables false
namespace Go.Fh
open Go.RowKit
theorem blk_setCells {g : Nat} {t : TypeId} : ∀ (vs : List Value) (o : Nat) (w : World) (a : Array Value), Blk w g t a → ∃ a', Blk (w.setCells g o vs) g t a' ∧ a'.size = a.size
  | [], _, _, a, h => ⟨a, h, rfl⟩
  | v :: vs, o, w, a, h => by
    obtain ⟨a', h1, h2⟩ := blk_setCells vs (o + 1) _ _ (h.set_ o v)
    exact ⟨a', h1, by simpa using h2⟩
theorem Blk.setAll {w : World} {g : Nat} {t : TypeId} {a cs : Array Value} (h : Blk w g t a) (hs : cs.size = a.size) : Blk (w.setCells g 0 cs.toList) g t cs := by
  obtain ⟨a', h1, h2⟩ := blk_setCells cs.toList 0 w a h
  have : a' = cs := by
    apply Array.ext (by omega)
    intro i hi1 hi2
    have hin := World.cell?_setCells_in g cs.toList 0 w (fun j hj => by
      rw [Nat.zero_add, h.cell]; simp at hj; simp [show j < a.size by omega]) i (by simpa using hi2)
    rw [Nat.zero_add, h1.cell] at hin
    simpa [hi1, hi2] using hin
  rw [this] at h1; exact h1
theorem setCells_below {B : Nat} {w0 : World} {g : Nat} (hg : B ≤ g) : ∀ (vs : List Value) (o : Nat) (w : World), Below B w0 w → Below B w0 (w.setCells g o vs)
  | [], _, _, h => h
  | v :: vs, o, w, h => setCells_below hg vs (o + 1) _ (h.setCell (p := ⟨g, o, none⟩) hg v)
theorem Blk.there {w : World} {g : Nat} {t : TypeId} {a : Array Value} (h : Blk w g t a) {n : Nat} (hn : n ≤ a.size) : w.there g 0 n := fun j hj => ⟨by rw [Nat.zero_add, h.cell]; simp [show j < a.size by omega], h.frozen _⟩
end Go.Fh
namespace Go.Ed
def padK (l : List Int) : List Int := l ++ List.replicate (64 - l.length) 0
/-- the cells of the key after k variants -/
def keyC (l : List Int) (k : Nat) : Array Go.Value := ((l.take k ++ List.replicate (64 - k) 0).map (Go.Value.int .i8)).toArray
theorem padK_len {l : List Int} (h : l.length ≤ 64) : (padK l).length = 64 := by simp [padK]; omega
theorem keyC_size {l : List Int} {k : Nat} (h : l.length ≤ 64) (hk : k ≤ l.length) : (keyC l k).size = 64 := by simp [keyC]; omega
theorem keyC_get {l : List Int} {k : Nat} (h : l.length ≤ 64) (hk : k < l.length) : (keyC l k)[k]? = some (.int .i8 0) := by
  simp only [keyC, List.getElem?_toArray, List.getElem?_map]
  rw [List.getElem?_append_right (by simp; omega)]
  simp [List.getElem?_replicate]
  omega
theorem keyC_next {l : List Int} {k : Nat} (h : l.length ≤ 64) (hk : k < l.length) : (keyC l k).setIfInBounds k (.int .i8 l[k]) = keyC l (k + 1) := by
  simp only [keyC, List.setIfInBounds_toArray]
  congr 1
  rw [List.take_succ_eq_append_getElem hk, show 64 - k = (64 - (k + 1)) + 1 by omega, List.replicate_succ]
  simp only [List.map_append, List.map_cons, List.map_nil, List.append_assoc, List.cons_append, List.nil_append]
  rw [List.set_append_right _ _ (by simp; omega)]
  simp [show k - min k l.length = 0 by omega]
theorem keyC_all {l : List Int} (h : l.length ≤ 64) : keyC l l.length = ((padK l).map (Go.Value.int .i8)).toArray := by simp [keyC, padK]
end Go.Ed
namespace Go.Proofs.Ytokdleanpkkdpaa
open Go.RowKit Go.Fh Go.Ed
theorem info164 : (Try.prog.info? 164).map (·.size) = some 64 := by kernel_rfl
set_option maxRecDepth 20000 in
set_option maxHeartbeats 2000000 in
theorem keyOf_any (A : Option Addr) (c : Nat) (l : List Int) (w : World) (hl : l.length ≤ 64) (hv : ∀ v ∈ l, 0 ≤ v ∧ v ≤ 9) (hA : Sl encInt 1 w w.heap.size A l) :
    Calls Try.prog 93 #[.slice A l.length c] w fun e w' => e = .returned (arrV .i8 (padK l)) ∧ Below w.heap.size w w' := by
  have HA := Lib.hid hA
  have HV := Lib.hid hv
  clear hA hv
  obtain ⟨gR, hgR⟩ : ∃ g, g = w.heap.size := ⟨_, rfl⟩
  obtain ⟨gK, hgK⟩ : ∃ g, g = w.heap.size + 1 := ⟨_, rfl⟩
  have HR := Lib.hid hgR
  have HK := Lib.hid hgK
  go_enter Try.func93, Try.ntmps93
  go_wp2_with fail
  rw [← hgK, ← hgR]
  generalize hW : World.alloc (World.alloc w _) _ = W0
  have kR : Blk W0 gR 164 (keyC l 0) := by
    rw [← hW, hgR]
    exact (Blk.new w 164 _).alloc _
  have kK : Blk W0 gK 164 (keyC l 0) := by
    rw [← hW, hgK]
    have := Blk.new (w.alloc (.cells (keyC l 0) 164)) 164 (keyC l 0)
    rw [World.size_alloc] at this
    exact this
  have hb : Below w.heap.size w W0 := by rw [← hW]; exact ((Below.refl _ _).alloc (Nat.le_refl _) _).alloc (by simp) _
  have KR := Lib.hid kR
  have KK := Lib.hid kK
  have HB := Lib.hid hb
  clear kR kK hb hW hgR hgK
  go_loopw [8] (fun i wr => ∃ k : Nat, k ≤ l.length ∧ i = .int .i64 k ∧ Hid (Blk wr gK 164 (keyC l k)) ∧ Below gK W0 wr) (fun i _ => l.length - (intOf i).toNat)
  case atStart => exact ⟨0, Nat.zero_le _, rfl, KK, Below.refl _ _⟩
  case round =>
    obtain ⟨k, hk, rfl, HKr, hW⟩ := hrel
    have hge : w.heap.size ≤ gK := by rw [HK.out]; omega
    have hbw : Below w.heap.size w wr := HB.out.trans (hW.mono hge)
    by_cases hlt : k < l.length
    · obtain ⟨b, off, rfl, hb, c0⟩ := (HA.out.below hbw).at1 hlt
      have hvk := HV.out _ (List.getElem_mem hlt)
      obtain ⟨v, hv⟩ : ∃ v, v = l[k] := ⟨_, rfl⟩
      rw [← hv] at c0 hvk
      have f1 := IntWalk.i8_in v (by omega)
      have z0 := HKr.out.frozen k
      have z1 := (HKr.out.cell k).trans (keyC_get hl hlt)
      have hgz : k < 64 := by omega
      have HV2 := Lib.hid hv
      clear hv hvk
      go_wp2_with fail
      go_roundw
      case rel =>
        refine ⟨k + 1, by omega, by go_num, ?_, hW.setCell (by exact Nat.le_refl _) _⟩
        have := HKr.out.set_ k (.int .i8 v)
        rw [HV2.out, keyC_next hl hlt, ← HV2.out] at this
        exact this
      case measure => simp [intOf]; omega
    · obtain rfl : k = l.length := by omega
      have hkk := HKr.out
      rw [keyC_all hl] at hkk
      have hrr := KR.out.below hW (by rw [HR.out, HK.out]; omega)
      obtain ⟨cs, hcs⟩ : ∃ cs, cs = ((padK l).map (Value.int .i8)).toArray := ⟨_, rfl⟩
      have hsz : cs.size = 64 := by rw [hcs]; simp [padK]; omega
      have hone : cs.all (·.oneCell') = true := by rw [hcs]; exact all_oneCell_toArray (by intro v hv; simp at hv; obtain ⟨a, _, rfl⟩ := hv; rfl)
      rw [← hcs] at hkk
      have hfin := hrr.setAll (cs := cs) (by rw [hsz, keyC_size hl (Nat.zero_le _)])
      have hth := hrr.there (n := cs.size) (by rw [hsz, keyC_size hl (Nat.zero_le _)]; omega)
      have hbf := setCells_below (g := gR) (by rw [HR.out]; exact Nat.le_refl _) cs.toList 0 wr hbw
      have HSZ := Lib.hid hsz
      have HCS := Lib.hid hcs
      have HBF := Lib.hid hbf
      have HFIN := Lib.hid hfin
      have HTH := Lib.hid hth
      have HONE := Lib.hid hone
      have HKK := Lib.hid hkk
      clear hsz hcs hbf hfin hth hone hkk hrr hbw hW
      go_wp2_with first
        | (refine wpList_load_row rfl 164 _ rfl gK rfl 164 cs (0, 0) _ HKK.out Try.underlying164 rfl (by rw [HSZ.out]; exact info164) ?_)
        | (refine wpList_store_mid rfl 164 _ _ rfl gR 0 cs rfl rfl HTH.out (by rw [HSZ.out]; exact info164) HONE.out ?_)
      refine bodyPost_ret (v := .agg cs) (results_cell_row rfl _ _ gR 164 cs (0, 0) _ rfl HFIN.out Try.underlying164 rfl (by rw [HSZ.out]; exact info164)) rfl ⟨by rw [HCS.out]; rfl, HBF.out⟩
end Go.Proofs.Ytokdleanpkkdpaa
