/- Rows of rows of bytes. -/
import Derived.Test.YtjgickfndcfgfaaHandA
namespace Go.Proofs.Ytjgickfndcfgfaa.HandS
open Go.RowKit Go.Proofs.Ytjgickfndcfgfaa.HandC
set_option linter.unusedVariables false
set_option linter.unusedSimpArgs false
def Rows2 (w : World) (a : Option Addr) (len : Nat) (ls : List (List Nat)) : Prop :=
  ls.length = len ∧ len ≤ 9223372036854775807 ∧ (0 < len → ∃ ad, a = some ad ∧ ∀ i, i < len → ∃ (ai : Option Addr) (ci : Nat), w.cell? (ad.add i) = some (.slice ai (ls.getD i []).length ci) ∧ (ls.getD i []).length ≤ ci ∧ Bytes w ai (ls.getD i []).length (ls.getD i []))
theorem Rows2.at {w : World} {a : Option Addr} {len : Nat} {ls : List (List Nat)} (h : Rows2 w a len ls) {i : Nat} (hi : i < len) : ∃ ad, a = some ad ∧ ∃ (ai : Option Addr) (ci : Nat), w.cell? (ad.add i) = some (.slice ai (ls.getD i []).length ci) ∧ (ls.getD i []).length ≤ ci ∧ Bytes w ai (ls.getD i []).length (ls.getD i []) := by
  obtain ⟨ad, h1, h2⟩ := h.2.2 (by omega)
  exact ⟨ad, h1, h2 i hi⟩
end Go.Proofs.Ytjgickfndcfgfaa.HandS
