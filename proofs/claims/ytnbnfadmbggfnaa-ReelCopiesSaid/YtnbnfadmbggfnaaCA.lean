/- Contract of the sort of spans that joined begins with; conditions: small numbers, a row of the caller's own. -/
import Derived.Test.YtnbnfadmbggfnaaShelf
import Derived.Test.YtnbnfadmbggfnaaC5
import Derived.Test.YtnbnfadmbggfnaaC9
import Derived.Test.YtnbnfadmbggfnaaC4
set_option linter.unusedSimpArgs false
set_option linter.unusedVariables false
namespace Go.Rl
/-- a span whose beginning is a small number -/
abbrev SpI := { s : Int × Int // 0 ≤ s.1 ∧ s.1 ≤ 1000000000 }
instance : Inhabited SpI := ⟨⟨(0, 0), by decide⟩⟩
def encSI (x : SpI) : List Go.Value := Go.Fh.enc2 x.1
def cfI (x y : SpI) : Int := x.1.1 - y.1.1
def liftI (l : List (Int × Int)) (h : ∀ s ∈ l, 0 ≤ s.1 ∧ s.1 ≤ 1000000000) : List SpI := l.pmap Subtype.mk h
theorem liftI_val (l : List (Int × Int)) (h : ∀ s ∈ l, 0 ≤ s.1 ∧ s.1 ≤ 1000000000) : (liftI l h).map (·.1) = l := by
  unfold liftI; rw [List.map_pmap]; simp
theorem encSI_flat (l : List SpI) : l.flatMap encSI = (l.map (·.1)).flatMap Go.Fh.enc2 := by
  induction l with
  | nil => rfl
  | cons x l ih => rw [List.flatMap_cons, ih, List.map_cons, List.flatMap_cons]; rfl
theorem ltI (x y : SpI) : Go.Proofs.ltOf cfI x y = decide (x.1.1 < y.1.1) := by
  unfold Go.Proofs.ltOf cfI
  by_cases h : x.1.1 < y.1.1
  · simp [h]; omega
  · simp [h]; omega
theorem swoI : Go.Sort.SWO (Go.Proofs.ltOf cfI) := {
  irrefl := fun x => by rw [ltI]; simp
  trans := fun x y z h1 h2 => by rw [ltI] at *; simp at *; omega
  ntrans := fun x y z h1 h2 => by rw [ltI] at *; simp at *; omega }
theorem sortedI {d : Array SpI} (h : Go.Sort.SortedIn (Go.Proofs.ltOf cfI) 0 d.size d) : (d.toList.map (·.1)).Pairwise fun a b => a.1 ≤ b.1 := by
  rw [List.pairwise_iff_getElem]
  intro i j hi hj hij
  have hj' : j < d.size := by simpa using hj
  have hi' : i < d.size := by omega
  have := h i j (Nat.zero_le _) hij hj'
  rw [ltI, getElem!_pos d i hi', getElem!_pos d j hj'] at this
  simp at this
  simpa using this
end Go.Rl
namespace Go.Proofs.Ytnbnfadmbggfnaa
open Go.RowKit Go.Fh Go.Rl Go.Sort Go.Proofs
theorem sort126 (l : List (Int × Int)) (g c cl base : Nat) (w : World) (hb : ∀ s ∈ l, 0 ≤ s.1 ∧ s.1 ≤ 1000000000) (hlen : l.length ≤ 1000000) (hown : w.ownsRow base 43 2 (.slice (some ⟨g, 0, none⟩) l.length c) l.length (l.flatMap enc2)) (hcl : Blk w cl 169 #[.func (.func 91) #[] #[]]) :
    Calls Try.prog 126 #[.slice (some ⟨g, 0, none⟩) l.length c, .func (.func 127) #[] #[.pointer (some ⟨cl, 0, none⟩)]] w fun e w' => e = .returned (.tuple #[]) ∧ ∃ l' : List (Int × Int), l'.Perm l ∧ (l'.Pairwise fun a b => a.1 ≤ b.1) ∧ w'.ownsRow base 43 2 (.slice (some ⟨g, 0, none⟩) l.length c) l.length (l'.flatMap enc2) ∧ w.grownBy w' (some g) := by
  obtain ⟨L, hL⟩ : ∃ L, L = liftI l hb := ⟨_, rfl⟩
  have hv : L.map (·.1) = l := by rw [hL]; exact liftI_val l hb
  have hll : L.length = l.length := by rw [← hv]; simp
  obtain ⟨d, hd⟩ : ∃ d : Array SpI, d = L.toArray := ⟨_, rfl⟩
  have hds : d.size = l.length := by rw [hd]; simpa using hll
  have hdl : d.toList = L := by rw [hd]
  have hflat : l.flatMap enc2 = d.toList.flatMap encSI := by rw [hdl, encSI_flat, hv]
  have hk : ∀ x : SpI, (encSI x).length = 2 := fun _ => rfl
  rw [hflat, ← hds] at hown
  have hne : cl ≠ g := by
    obtain ⟨⟨cs, hcs⟩, _⟩ := own_at hown (g := g) rfl
    exact fun e => absurd (Blk.ne_ hcl (show Blk w g 43 cs from hcs) (by decide)) (by simp [e])
  have eg : ∀ args w, (callFunc 127 args).run Try.prog w = .ok (.enter 127 args) w := enters_of Try.func127 (by kernel_rfl) rfl
  have hcmp : CmpLays Try.prog 127 #[.pointer (some ⟨cl, 0, none⟩)] encSI 2 cfI g 0 d.size w := by
    intro m os dk hdk x y
    have hg := (own_sorted (os := os) (m := m) (d' := dk) hk (by omega) hown hdk).2
    exact cmp127_any x.1 y.1 cl _ x.2 y.2 (hcl.grown hg (fun e => hne (by injection e)))
  have hlt : g < w.heap.size := by
    obtain ⟨⟨cs, hcs⟩, _⟩ := own_at hown (g := g) rfl
    exact (Array.getElem?_eq_some_iff.1 hcs).1
  have hc := AnyQ.slices_SortFunc Try.sortSp 2 Try.isAgg43 Try.sizeOf43 encSI hk (fun x v hv => by unfold encSI enc2 at hv; simp at hv; rcases hv with rfl | rfl <;> rfl) cfI swoI 127 #[.pointer (some ⟨cl, 0, none⟩)] g 0 c d w eg hcmp (own_holds hk (by omega) hown) hlt (by omega)
  rw [← hds]
  refine Calls.mono (show Calls Try.prog 126 _ w _ from hc) ?_
  rintro e w' ⟨rfl, d', m, os, hp, hs, rfl⟩
  have hsz := hp.1
  have hw := own_sorted (os := os) (m := m) hk (by omega) hown hsz
  have hperm : d'.toList.Perm d.toList := by
    have := hp.2.2
    have e1 : d'.extract 0 d.size = d' := by rw [← hsz]; exact Array.extract_size
    rw [e1, Array.extract_size] at this
    exact this
  refine ⟨rfl, d'.toList.map (·.1), ?_, ?_, ?_, hw.2⟩
  · have := hperm.map (·.1)
    rw [hdl, hv] at this
    exact this
  · rw [← hsz] at hs
    exact sortedI hs
  · rw [← encSI_flat]
    exact hw.1
theorem sort126_none (p : Option Addr) (c : Nat) (fv : Value) (w : World) : Calls Try.prog 126 #[.slice p 0 c, fv] w fun e w' => e = .returned (.tuple #[]) ∧ w' = w := AnyF.slices_SortFunc_none Try.sortSp p c fv w
end Go.Proofs.Ytnbnfadmbggfnaa
