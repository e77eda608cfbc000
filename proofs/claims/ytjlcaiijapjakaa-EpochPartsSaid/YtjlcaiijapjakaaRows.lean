/-
  No cell of these rows narrows 'for every input' (looked for: loops, veiled, ifaces, maps, wideKeys, modest, calm, conditions, laid).
  DERIVED. THE GIVEN ROWS OF THIS SEAT. 9 by the template 'for every input the law returns true; each argument reads behind the call as it read before'; 0 by the template 'total and deterministic' (their statements: YtjlcaiijapjakaaTotals.lean).
  GIVEN WITH THE SEED: the statements are not yours to turn. If you find one false, say at which input.
  Laid BY PROGRAM, IN A SANDBOX (cutbox-rows.mjs): the forced cells as the released guide's own fill.sh prints them over the translation 863acfc316b51da2… (all of the seat's roots in one cut). By AI agents, Wed Nov 11 2026. No macro, syntax, notation, axiom, sorry.
-/
import Derived.Test.YtjlcaiijapjakaaChecked
import GoSem.Claim
import GoSem.ClaimJoined
import GoSem.ClaimMapViews
import Derived.JoinedTies
import Derived.KernelRfl
namespace Go.Proofs.Ytjlcaiijapjakaa
/- THE CELL 'sum', in the pinned program and in every row, IS THE sha256 OF THE DUMP (.gsa) THAT YtjlcaiijapjakaaProg.lean LOADS. Nothing in Lean hashes anything: it is a label: what it is worth is what the hold of that sum in a sandbox is worth. -/
noncomputable def Try.pinned : Pinned := { name := "ytjlcaiijapjakaa", sum := "863acfc316b51da24d444a92791bb73aec57e4df12c17ef083d888beafedef7e", checked := Try.checked }
namespace Rows
def none {H : Type} : Left H := { results := [], args := [] }

/-- 'grapevinelaw06.EpochGrants': WHATEVER THE INPUT: true; the input reads as it did. -/
def epochGrantsSpec : ChangeSpec := { name := "epochGrants", fn := fun _ => fun
  | [d1, d2] => { results := [.lit (.bool true)], args := [d1, d2] }
  | _ => none }
def epochGrantsRow : OpenClaim := { program := "ytjlcaiijapjakaa", sum := "863acfc316b51da24d444a92791bb73aec57e4df12c17ef083d888beafedef7e", func := "grapevine/grapevinelaw06.EpochGrants", spec := "epochGrants", apart := false }
def EpochGrantsSaid : Prop := epochGrantsRow.holds Try.pinned (OpenSpec.ofChange epochGrantsSpec)

/-- ITS FALSE NEIGHBOUR: 'it returns false'. Refute it at one input. -/
def epochGrantsWrong : ChangeSpec := { name := "epochGrants", fn := fun _ => fun
  | [d1, d2] => { results := [.lit (.bool false)], args := [d1, d2] }
  | _ => none }
def EpochGrantsWrongFalsely : Prop := epochGrantsRow.holds Try.pinned (OpenSpec.ofChange epochGrantsWrong)

/-- 'grapevinelaw06.EpochWins': WHATEVER THE INPUT: true; the input reads as it did. -/
def epochWinsSpec : ChangeSpec := { name := "epochWins", fn := fun _ => fun
  | [d1, d2] => { results := [.lit (.bool true)], args := [d1, d2] }
  | _ => none }
def epochWinsRow : OpenClaim := { program := "ytjlcaiijapjakaa", sum := "863acfc316b51da24d444a92791bb73aec57e4df12c17ef083d888beafedef7e", func := "grapevine/grapevinelaw06.EpochWins", spec := "epochWins", apart := false }
def EpochWinsSaid : Prop := epochWinsRow.holds Try.pinned (OpenSpec.ofChange epochWinsSpec)

/-- ITS FALSE NEIGHBOUR: 'it returns false'. Refute it at one input. -/
def epochWinsWrong : ChangeSpec := { name := "epochWins", fn := fun _ => fun
  | [d1, d2] => { results := [.lit (.bool false)], args := [d1, d2] }
  | _ => none }
def EpochWinsWrongFalsely : Prop := epochWinsRow.holds Try.pinned (OpenSpec.ofChange epochWinsWrong)

/-- 'grapevinelaw06.EpochYields': WHATEVER THE INPUT: true; the input reads as it did. -/
def epochYieldsSpec : ChangeSpec := { name := "epochYields", fn := fun _ => fun
  | [d1, d2, d3, d4] => { results := [.lit (.bool true)], args := [d1, d2, d3, d4] }
  | _ => none }
def epochYieldsRow : OpenClaim := { program := "ytjlcaiijapjakaa", sum := "863acfc316b51da24d444a92791bb73aec57e4df12c17ef083d888beafedef7e", func := "grapevine/grapevinelaw06.EpochYields", spec := "epochYields", apart := false }
def EpochYieldsSaid : Prop := epochYieldsRow.holds Try.pinned (OpenSpec.ofChange epochYieldsSpec)

/-- ITS FALSE NEIGHBOUR: 'it returns false'. Refute it at one input. -/
def epochYieldsWrong : ChangeSpec := { name := "epochYields", fn := fun _ => fun
  | [d1, d2, d3, d4] => { results := [.lit (.bool false)], args := [d1, d2, d3, d4] }
  | _ => none }
def EpochYieldsWrongFalsely : Prop := epochYieldsRow.holds Try.pinned (OpenSpec.ofChange epochYieldsWrong)

/-- 'grapevinelaw06.EpochSees': WHATEVER THE INPUT: true; the input reads as it did. -/
def epochSeesSpec : ChangeSpec := { name := "epochSees", fn := fun _ => fun
  | [d1, d2] => { results := [.lit (.bool true)], args := [d1, d2] }
  | _ => none }
def epochSeesRow : OpenClaim := { program := "ytjlcaiijapjakaa", sum := "863acfc316b51da24d444a92791bb73aec57e4df12c17ef083d888beafedef7e", func := "grapevine/grapevinelaw06.EpochSees", spec := "epochSees", apart := false }
def EpochSeesSaid : Prop := epochSeesRow.holds Try.pinned (OpenSpec.ofChange epochSeesSpec)

/-- ITS FALSE NEIGHBOUR: 'it returns false'. Refute it at one input. -/
def epochSeesWrong : ChangeSpec := { name := "epochSees", fn := fun _ => fun
  | [d1, d2] => { results := [.lit (.bool false)], args := [d1, d2] }
  | _ => none }
def EpochSeesWrongFalsely : Prop := epochSeesRow.holds Try.pinned (OpenSpec.ofChange epochSeesWrong)

/-- 'grapevinelaw06.EpochAsks': WHATEVER THE INPUT: true; the input reads as it did. -/
def epochAsksSpec : ChangeSpec := { name := "epochAsks", fn := fun _ => fun
  | [d1, d2] => { results := [.lit (.bool true)], args := [d1, d2] }
  | _ => none }
def epochAsksRow : OpenClaim := { program := "ytjlcaiijapjakaa", sum := "863acfc316b51da24d444a92791bb73aec57e4df12c17ef083d888beafedef7e", func := "grapevine/grapevinelaw06.EpochAsks", spec := "epochAsks", apart := false }
def EpochAsksSaid : Prop := epochAsksRow.holds Try.pinned (OpenSpec.ofChange epochAsksSpec)

/-- ITS FALSE NEIGHBOUR: 'it returns false'. Refute it at one input. -/
def epochAsksWrong : ChangeSpec := { name := "epochAsks", fn := fun _ => fun
  | [d1, d2] => { results := [.lit (.bool false)], args := [d1, d2] }
  | _ => none }
def EpochAsksWrongFalsely : Prop := epochAsksRow.holds Try.pinned (OpenSpec.ofChange epochAsksWrong)

/-- 'grapevinelaw06.EpochOrder': WHATEVER THE INPUT: true; the input reads as it did. -/
def epochOrderSpec : ChangeSpec := { name := "epochOrder", fn := fun _ => fun
  | [d1, d2] => { results := [.lit (.bool true)], args := [d1, d2] }
  | _ => none }
def epochOrderRow : OpenClaim := { program := "ytjlcaiijapjakaa", sum := "863acfc316b51da24d444a92791bb73aec57e4df12c17ef083d888beafedef7e", func := "grapevine/grapevinelaw06.EpochOrder", spec := "epochOrder", apart := false }
def EpochOrderSaid : Prop := epochOrderRow.holds Try.pinned (OpenSpec.ofChange epochOrderSpec)

/-- ITS FALSE NEIGHBOUR: 'it returns false'. Refute it at one input. -/
def epochOrderWrong : ChangeSpec := { name := "epochOrder", fn := fun _ => fun
  | [d1, d2] => { results := [.lit (.bool false)], args := [d1, d2] }
  | _ => none }
def EpochOrderWrongFalsely : Prop := epochOrderRow.holds Try.pinned (OpenSpec.ofChange epochOrderWrong)

/-- 'grapevinelaw06.EpochStands': WHATEVER THE INPUT: true; the input reads as it did. -/
def epochStandsSpec : ChangeSpec := { name := "epochStands", fn := fun _ => fun
  | [d] => { results := [.lit (.bool true)], args := [d] }
  | _ => none }
def epochStandsRow : OpenClaim := { program := "ytjlcaiijapjakaa", sum := "863acfc316b51da24d444a92791bb73aec57e4df12c17ef083d888beafedef7e", func := "grapevine/grapevinelaw06.EpochStands", spec := "epochStands", apart := false }
def EpochStandsSaid : Prop := epochStandsRow.holds Try.pinned (OpenSpec.ofChange epochStandsSpec)

/-- ITS FALSE NEIGHBOUR: 'it returns false'. Refute it at one input. -/
def epochStandsWrong : ChangeSpec := { name := "epochStands", fn := fun _ => fun
  | [d] => { results := [.lit (.bool false)], args := [d] }
  | _ => none }
def EpochStandsWrongFalsely : Prop := epochStandsRow.holds Try.pinned (OpenSpec.ofChange epochStandsWrong)

/-- 'grapevinelaw06.EpochGrows': WHATEVER THE INPUT: true; the input reads as it did. -/
def epochGrowsSpec : ChangeSpec := { name := "epochGrows", fn := fun _ => fun
  | [d1, d2] => { results := [.lit (.bool true)], args := [d1, d2] }
  | _ => none }
def epochGrowsRow : OpenClaim := { program := "ytjlcaiijapjakaa", sum := "863acfc316b51da24d444a92791bb73aec57e4df12c17ef083d888beafedef7e", func := "grapevine/grapevinelaw06.EpochGrows", spec := "epochGrows", apart := false }
def EpochGrowsSaid : Prop := epochGrowsRow.holds Try.pinned (OpenSpec.ofChange epochGrowsSpec)

/-- ITS FALSE NEIGHBOUR: 'it returns false'. Refute it at one input. -/
def epochGrowsWrong : ChangeSpec := { name := "epochGrows", fn := fun _ => fun
  | [d1, d2] => { results := [.lit (.bool false)], args := [d1, d2] }
  | _ => none }
def EpochGrowsWrongFalsely : Prop := epochGrowsRow.holds Try.pinned (OpenSpec.ofChange epochGrowsWrong)

/-- 'grapevinelaw06.EpochParts': WHATEVER THE INPUT: true; the input reads as it did. -/
def epochPartsSpec : ChangeSpec := { name := "epochParts", fn := fun _ => fun
  | [d1, d2] => { results := [.lit (.bool true)], args := [d1, d2] }
  | _ => none }
def epochPartsRow : OpenClaim := { program := "ytjlcaiijapjakaa", sum := "863acfc316b51da24d444a92791bb73aec57e4df12c17ef083d888beafedef7e", func := "grapevine/grapevinelaw06.EpochParts", spec := "epochParts", apart := false }
def EpochPartsSaid : Prop := epochPartsRow.holds Try.pinned (OpenSpec.ofChange epochPartsSpec)

/-- ITS FALSE NEIGHBOUR: 'it returns false'. Refute it at one input. -/
def epochPartsWrong : ChangeSpec := { name := "epochParts", fn := fun _ => fun
  | [d1, d2] => { results := [.lit (.bool false)], args := [d1, d2] }
  | _ => none }
def EpochPartsWrongFalsely : Prop := epochPartsRow.holds Try.pinned (OpenSpec.ofChange epochPartsWrong)

/- THE SECOND FORM. 'bulk': how many values and letters a reading holds, each counted each time it is reached (what is shared counts as often as it is met; a slice's spare places count too). A statement '..UptoSaid' is the law's where the arguments, and the package variables that the reading takes, are together of bulk at most 1048576: NARROWER than '..Said'. Prove '..Said' where nothing that the law and all that it calls make is longer than what came in: it says more and counts as full. Else prove '..UptoSaid'. A law counts once. -/
mutual
def uptoBulk {H : Type} : DataW H → Nat
  | .lit (.string bytes) => bytes.length + 1
  | .lit _ => 1
  | .nil => 1
  | .ptr d => uptoBulk d + 1
  | .slice elems spare => uptoBulkAll elems + uptoBulkAll spare + 1
  | .agg parts => uptoBulkAll parts + 1
  | .iface _ d => uptoBulk d + 1
  | .map entries => uptoBulkEntries entries + 1
  | .held _ => 1
def uptoBulkAll {H : Type} : List (DataW H) → Nat
  | [] => 0
  | d :: r => uptoBulk d + uptoBulkAll r
def uptoBulkEntries {H : Type} : List (Lit × DataW H) → Nat
  | [] => 0
  | x :: r => uptoBulkEntry x + uptoBulkEntries r
def uptoBulkEntry {H : Type} : Lit × DataW H → Nat
  | (.string bytes, d) => bytes.length + uptoBulk d + 1
  | (_, d) => uptoBulk d + 1
 end
def uptoSmall : (H : Type) → List (DataW H) → Bool := fun _ ds => decide (uptoBulkAll ds ≤ 1048576)
def OpenSpec.upto (s : _root_.Go.ChangeSpec) : _root_.Go.OpenSpec := { _root_.Go.OpenSpec.ofChange s with cond := some uptoSmall }

/-- 'grapevinelaw06.EpochGrants', WHERE WHAT IT READS IS OF BULK AT MOST 1048576: true; the input reads as it did. -/
def epochGrantsUptoRow : OpenClaim := { program := "ytjlcaiijapjakaa", sum := "863acfc316b51da24d444a92791bb73aec57e4df12c17ef083d888beafedef7e", func := "grapevine/grapevinelaw06.EpochGrants", spec := "epochGrants", apart := false, narrowed := true }
def EpochGrantsUptoSaid : Prop := epochGrantsUptoRow.holds Try.pinned (OpenSpec.upto epochGrantsSpec)

/-- 'grapevinelaw06.EpochWins', WHERE WHAT IT READS IS OF BULK AT MOST 1048576: true; the input reads as it did. -/
def epochWinsUptoRow : OpenClaim := { program := "ytjlcaiijapjakaa", sum := "863acfc316b51da24d444a92791bb73aec57e4df12c17ef083d888beafedef7e", func := "grapevine/grapevinelaw06.EpochWins", spec := "epochWins", apart := false, narrowed := true }
def EpochWinsUptoSaid : Prop := epochWinsUptoRow.holds Try.pinned (OpenSpec.upto epochWinsSpec)

/-- 'grapevinelaw06.EpochYields', WHERE WHAT IT READS IS OF BULK AT MOST 1048576: true; the input reads as it did. -/
def epochYieldsUptoRow : OpenClaim := { program := "ytjlcaiijapjakaa", sum := "863acfc316b51da24d444a92791bb73aec57e4df12c17ef083d888beafedef7e", func := "grapevine/grapevinelaw06.EpochYields", spec := "epochYields", apart := false, narrowed := true }
def EpochYieldsUptoSaid : Prop := epochYieldsUptoRow.holds Try.pinned (OpenSpec.upto epochYieldsSpec)

/-- 'grapevinelaw06.EpochSees', WHERE WHAT IT READS IS OF BULK AT MOST 1048576: true; the input reads as it did. -/
def epochSeesUptoRow : OpenClaim := { program := "ytjlcaiijapjakaa", sum := "863acfc316b51da24d444a92791bb73aec57e4df12c17ef083d888beafedef7e", func := "grapevine/grapevinelaw06.EpochSees", spec := "epochSees", apart := false, narrowed := true }
def EpochSeesUptoSaid : Prop := epochSeesUptoRow.holds Try.pinned (OpenSpec.upto epochSeesSpec)

/-- 'grapevinelaw06.EpochAsks', WHERE WHAT IT READS IS OF BULK AT MOST 1048576: true; the input reads as it did. -/
def epochAsksUptoRow : OpenClaim := { program := "ytjlcaiijapjakaa", sum := "863acfc316b51da24d444a92791bb73aec57e4df12c17ef083d888beafedef7e", func := "grapevine/grapevinelaw06.EpochAsks", spec := "epochAsks", apart := false, narrowed := true }
def EpochAsksUptoSaid : Prop := epochAsksUptoRow.holds Try.pinned (OpenSpec.upto epochAsksSpec)

/-- 'grapevinelaw06.EpochOrder', WHERE WHAT IT READS IS OF BULK AT MOST 1048576: true; the input reads as it did. -/
def epochOrderUptoRow : OpenClaim := { program := "ytjlcaiijapjakaa", sum := "863acfc316b51da24d444a92791bb73aec57e4df12c17ef083d888beafedef7e", func := "grapevine/grapevinelaw06.EpochOrder", spec := "epochOrder", apart := false, narrowed := true }
def EpochOrderUptoSaid : Prop := epochOrderUptoRow.holds Try.pinned (OpenSpec.upto epochOrderSpec)

/-- 'grapevinelaw06.EpochStands', WHERE WHAT IT READS IS OF BULK AT MOST 1048576: true; the input reads as it did. -/
def epochStandsUptoRow : OpenClaim := { program := "ytjlcaiijapjakaa", sum := "863acfc316b51da24d444a92791bb73aec57e4df12c17ef083d888beafedef7e", func := "grapevine/grapevinelaw06.EpochStands", spec := "epochStands", apart := false, narrowed := true }
def EpochStandsUptoSaid : Prop := epochStandsUptoRow.holds Try.pinned (OpenSpec.upto epochStandsSpec)

/-- 'grapevinelaw06.EpochGrows', WHERE WHAT IT READS IS OF BULK AT MOST 1048576: true; the input reads as it did. -/
def epochGrowsUptoRow : OpenClaim := { program := "ytjlcaiijapjakaa", sum := "863acfc316b51da24d444a92791bb73aec57e4df12c17ef083d888beafedef7e", func := "grapevine/grapevinelaw06.EpochGrows", spec := "epochGrows", apart := false, narrowed := true }
def EpochGrowsUptoSaid : Prop := epochGrowsUptoRow.holds Try.pinned (OpenSpec.upto epochGrowsSpec)

/-- 'grapevinelaw06.EpochParts', WHERE WHAT IT READS IS OF BULK AT MOST 1048576: true; the input reads as it did. -/
def epochPartsUptoRow : OpenClaim := { program := "ytjlcaiijapjakaa", sum := "863acfc316b51da24d444a92791bb73aec57e4df12c17ef083d888beafedef7e", func := "grapevine/grapevinelaw06.EpochParts", spec := "epochParts", apart := false, narrowed := true }
def EpochPartsUptoSaid : Prop := epochPartsUptoRow.holds Try.pinned (OpenSpec.upto epochPartsSpec)

end Rows
end Go.Proofs.Ytjlcaiijapjakaa
