/- Bytes in memory; conditions: none. -/
import Derived.Test.YtfejedmpplbmjaaOpn
set_option linter.unusedSimpArgs false
set_option linter.unusedVariables false
namespace Go.Proofs.Ytfejedmpplbmjaa
open Go.RowKit Go.Fh
def encBn (n : Nat) : List Value := [.int .u8 n]
theorem Sl.atBn {B : Nat} {w : World} {A : Option Addr} {l : List Nat} (h : Sl encBn 1 w B A l) {k : Nat} (hk : k < l.length) :
    ∃ b off, A = some ⟨b, off, none⟩ ∧ b < B ∧ w.cell? ⟨b, off + k, none⟩ = some (.int .u8 ((l[k] : Nat) : Int)) := by
  obtain ⟨b, off, hA, hb, hc⟩ := h.at_ hk
  exact ⟨b, off, hA, hb, by simpa using hc 0 _ rfl⟩
end Go.Proofs.Ytfejedmpplbmjaa
