/-
  No cell of these rows narrows 'for every input' (looked for: loops, veiled, ifaces, maps, wideKeys, modest, calm, conditions, laid).
  DERIVED. THE GIVEN ROWS OF THIS SEAT. 5 by the template 'for every input the law returns true; each argument reads behind the call as it read before'; 0 by the template 'total and deterministic' (their statements: YtcpiccgnaecdkaaTotals.lean).
  GIVEN WITH THE SEED: the statements are not yours to turn. If you find one false, say at which input.
  Laid BY PROGRAM, IN A SANDBOX (cutbox-rows.mjs): the forced cells as the released guide's own fill.sh prints them over the translation afaa979342c3ef2b… (all of the seat's roots in one cut). By AI agents, Wed Nov 11 2026. No macro, syntax, notation, axiom, sorry.
-/
import Derived.Test.YtcpiccgnaecdkaaChecked
import GoSem.Claim
import GoSem.ClaimJoined
import GoSem.ClaimMapViews
import Derived.JoinedTies
import Derived.KernelRfl
namespace Go.Proofs.Ytcpiccgnaecdkaa
/- THE CELL 'sum', in the pinned program and in every row, IS THE sha256 OF THE DUMP (.gsa) THAT YtcpiccgnaecdkaaProg.lean LOADS. Nothing in Lean hashes anything: it is a label: what it is worth is what the hold of that sum in a sandbox is worth. -/
noncomputable def Try.pinned : Pinned := { name := "ytcpiccgnaecdkaa", sum := "afaa979342c3ef2b34a5a5c0ec17fcd635bd625910ea62d28821cf4a5d671f09", checked := Try.checked }
namespace Rows
def none {H : Type} : Left H := { results := [], args := [] }

/-- 'grapevinelaw21.JudgeTwice': WHATEVER THE INPUT: true; the input reads as it did. -/
def judgeTwiceSpec : ChangeSpec := { name := "judgeTwice", fn := fun _ => fun
  | [d] => { results := [.lit (.bool true)], args := [d] }
  | _ => none }
def judgeTwiceRow : OpenClaim := { program := "ytcpiccgnaecdkaa", sum := "afaa979342c3ef2b34a5a5c0ec17fcd635bd625910ea62d28821cf4a5d671f09", func := "grapevine/grapevinelaw21.JudgeTwice", spec := "judgeTwice", unfollowed := true, recurses := true, plainKeys := false, apart := false }
def JudgeTwiceSaid : Prop := judgeTwiceRow.holds Try.pinned (OpenSpec.ofChange judgeTwiceSpec)

/-- ITS FALSE NEIGHBOUR: 'it returns false'. Refute it at one input. -/
def judgeTwiceWrong : ChangeSpec := { name := "judgeTwice", fn := fun _ => fun
  | [d] => { results := [.lit (.bool false)], args := [d] }
  | _ => none }
def JudgeTwiceWrongFalsely : Prop := judgeTwiceRow.holds Try.pinned (OpenSpec.ofChange judgeTwiceWrong)

/-- 'grapevinelaw21.JudgeDoubles': WHATEVER THE INPUT: true; the input reads as it did. -/
def judgeDoublesSpec : ChangeSpec := { name := "judgeDoubles", fn := fun _ => fun
  | [d1, d2] => { results := [.lit (.bool true)], args := [d1, d2] }
  | _ => none }
def judgeDoublesRow : OpenClaim := { program := "ytcpiccgnaecdkaa", sum := "afaa979342c3ef2b34a5a5c0ec17fcd635bd625910ea62d28821cf4a5d671f09", func := "grapevine/grapevinelaw21.JudgeDoubles", spec := "judgeDoubles", unfollowed := true, recurses := true, plainKeys := false, apart := false }
def JudgeDoublesSaid : Prop := judgeDoublesRow.holds Try.pinned (OpenSpec.ofChange judgeDoublesSpec)

/-- ITS FALSE NEIGHBOUR: 'it returns false'. Refute it at one input. -/
def judgeDoublesWrong : ChangeSpec := { name := "judgeDoubles", fn := fun _ => fun
  | [d1, d2] => { results := [.lit (.bool false)], args := [d1, d2] }
  | _ => none }
def JudgeDoublesWrongFalsely : Prop := judgeDoublesRow.holds Try.pinned (OpenSpec.ofChange judgeDoublesWrong)

/-- 'grapevinelaw21.JudgeFounds': WHATEVER THE INPUT: true; the input reads as it did. -/
def judgeFoundsSpec : ChangeSpec := { name := "judgeFounds", fn := fun _ => fun
  | [d] => { results := [.lit (.bool true)], args := [d] }
  | _ => none }
def judgeFoundsRow : OpenClaim := { program := "ytcpiccgnaecdkaa", sum := "afaa979342c3ef2b34a5a5c0ec17fcd635bd625910ea62d28821cf4a5d671f09", func := "grapevine/grapevinelaw21.JudgeFounds", spec := "judgeFounds", unfollowed := true, recurses := true, plainKeys := false, apart := false }
def JudgeFoundsSaid : Prop := judgeFoundsRow.holds Try.pinned (OpenSpec.ofChange judgeFoundsSpec)

/-- ITS FALSE NEIGHBOUR: 'it returns false'. Refute it at one input. -/
def judgeFoundsWrong : ChangeSpec := { name := "judgeFounds", fn := fun _ => fun
  | [d] => { results := [.lit (.bool false)], args := [d] }
  | _ => none }
def JudgeFoundsWrongFalsely : Prop := judgeFoundsRow.holds Try.pinned (OpenSpec.ofChange judgeFoundsWrong)

/-- 'grapevinelaw21.JudgeClashes': WHATEVER THE INPUT: true; the input reads as it did. -/
def judgeClashesSpec : ChangeSpec := { name := "judgeClashes", fn := fun _ => fun
  | [d] => { results := [.lit (.bool true)], args := [d] }
  | _ => none }
def judgeClashesRow : OpenClaim := { program := "ytcpiccgnaecdkaa", sum := "afaa979342c3ef2b34a5a5c0ec17fcd635bd625910ea62d28821cf4a5d671f09", func := "grapevine/grapevinelaw21.JudgeClashes", spec := "judgeClashes", unfollowed := true, recurses := true, plainKeys := false, apart := false }
def JudgeClashesSaid : Prop := judgeClashesRow.holds Try.pinned (OpenSpec.ofChange judgeClashesSpec)

/-- ITS FALSE NEIGHBOUR: 'it returns false'. Refute it at one input. -/
def judgeClashesWrong : ChangeSpec := { name := "judgeClashes", fn := fun _ => fun
  | [d] => { results := [.lit (.bool false)], args := [d] }
  | _ => none }
def JudgeClashesWrongFalsely : Prop := judgeClashesRow.holds Try.pinned (OpenSpec.ofChange judgeClashesWrong)

/-- 'grapevinelaw21.JudgeCuts': WHATEVER THE INPUT: true; the input reads as it did. -/
def judgeCutsSpec : ChangeSpec := { name := "judgeCuts", fn := fun _ => fun
  | [d1, d2] => { results := [.lit (.bool true)], args := [d1, d2] }
  | _ => none }
def judgeCutsRow : OpenClaim := { program := "ytcpiccgnaecdkaa", sum := "afaa979342c3ef2b34a5a5c0ec17fcd635bd625910ea62d28821cf4a5d671f09", func := "grapevine/grapevinelaw21.JudgeCuts", spec := "judgeCuts", unfollowed := true, recurses := true, plainKeys := false, apart := false }
def JudgeCutsSaid : Prop := judgeCutsRow.holds Try.pinned (OpenSpec.ofChange judgeCutsSpec)

/-- ITS FALSE NEIGHBOUR: 'it returns false'. Refute it at one input. -/
def judgeCutsWrong : ChangeSpec := { name := "judgeCuts", fn := fun _ => fun
  | [d1, d2] => { results := [.lit (.bool false)], args := [d1, d2] }
  | _ => none }
def JudgeCutsWrongFalsely : Prop := judgeCutsRow.holds Try.pinned (OpenSpec.ofChange judgeCutsWrong)

/- THE SECOND FORM. 'bulk': how many values and letters a reading holds, each counted each time it is reached (what is shared counts as often as it is met; a slice's spare places count too). A statement '..UptoSaid' is the law's where the arguments, and the package variables that the reading takes, are together of bulk at most 1048576: NARROWER than '..Said'. Prove '..Said' where nothing that the law and all that it calls make is longer than what came in: it says more and counts as full. Else prove '..UptoSaid'. A law counts once. -/
mutual
def uptoBulk {H : Type} : DataW H → Nat
  | .lit (.string bytes) => bytes.length + 1
  | .lit _ => 1
  | .nil => 1
  | .ptr d => uptoBulk d + 1
  | .slice elems spare => uptoBulkAll elems + uptoBulkAll spare + 1
  | .agg parts => uptoBulkAll parts + 1
  | .iface _ d => uptoBulk d + 1
  | .map entries => uptoBulkEntries entries + 1
  | .held _ => 1
def uptoBulkAll {H : Type} : List (DataW H) → Nat
  | [] => 0
  | d :: r => uptoBulk d + uptoBulkAll r
def uptoBulkEntries {H : Type} : List (Lit × DataW H) → Nat
  | [] => 0
  | x :: r => uptoBulkEntry x + uptoBulkEntries r
def uptoBulkEntry {H : Type} : Lit × DataW H → Nat
  | (.string bytes, d) => bytes.length + uptoBulk d + 1
  | (_, d) => uptoBulk d + 1
 end
def uptoSmall : (H : Type) → List (DataW H) → Bool := fun _ ds => decide (uptoBulkAll ds ≤ 1048576)
def OpenSpec.upto (s : _root_.Go.ChangeSpec) : _root_.Go.OpenSpec := { _root_.Go.OpenSpec.ofChange s with cond := some uptoSmall }

/-- 'grapevinelaw21.JudgeTwice', WHERE WHAT IT READS IS OF BULK AT MOST 1048576: true; the input reads as it did. -/
def judgeTwiceUptoRow : OpenClaim := { program := "ytcpiccgnaecdkaa", sum := "afaa979342c3ef2b34a5a5c0ec17fcd635bd625910ea62d28821cf4a5d671f09", func := "grapevine/grapevinelaw21.JudgeTwice", spec := "judgeTwice", unfollowed := true, recurses := true, plainKeys := false, apart := false, narrowed := true }
def JudgeTwiceUptoSaid : Prop := judgeTwiceUptoRow.holds Try.pinned (OpenSpec.upto judgeTwiceSpec)

/-- 'grapevinelaw21.JudgeDoubles', WHERE WHAT IT READS IS OF BULK AT MOST 1048576: true; the input reads as it did. -/
def judgeDoublesUptoRow : OpenClaim := { program := "ytcpiccgnaecdkaa", sum := "afaa979342c3ef2b34a5a5c0ec17fcd635bd625910ea62d28821cf4a5d671f09", func := "grapevine/grapevinelaw21.JudgeDoubles", spec := "judgeDoubles", unfollowed := true, recurses := true, plainKeys := false, apart := false, narrowed := true }
def JudgeDoublesUptoSaid : Prop := judgeDoublesUptoRow.holds Try.pinned (OpenSpec.upto judgeDoublesSpec)

/-- 'grapevinelaw21.JudgeFounds', WHERE WHAT IT READS IS OF BULK AT MOST 1048576: true; the input reads as it did. -/
def judgeFoundsUptoRow : OpenClaim := { program := "ytcpiccgnaecdkaa", sum := "afaa979342c3ef2b34a5a5c0ec17fcd635bd625910ea62d28821cf4a5d671f09", func := "grapevine/grapevinelaw21.JudgeFounds", spec := "judgeFounds", unfollowed := true, recurses := true, plainKeys := false, apart := false, narrowed := true }
def JudgeFoundsUptoSaid : Prop := judgeFoundsUptoRow.holds Try.pinned (OpenSpec.upto judgeFoundsSpec)

/-- 'grapevinelaw21.JudgeClashes', WHERE WHAT IT READS IS OF BULK AT MOST 1048576: true; the input reads as it did. -/
def judgeClashesUptoRow : OpenClaim := { program := "ytcpiccgnaecdkaa", sum := "afaa979342c3ef2b34a5a5c0ec17fcd635bd625910ea62d28821cf4a5d671f09", func := "grapevine/grapevinelaw21.JudgeClashes", spec := "judgeClashes", unfollowed := true, recurses := true, plainKeys := false, apart := false, narrowed := true }
def JudgeClashesUptoSaid : Prop := judgeClashesUptoRow.holds Try.pinned (OpenSpec.upto judgeClashesSpec)

/-- 'grapevinelaw21.JudgeCuts', WHERE WHAT IT READS IS OF BULK AT MOST 1048576: true; the input reads as it did. -/
def judgeCutsUptoRow : OpenClaim := { program := "ytcpiccgnaecdkaa", sum := "afaa979342c3ef2b34a5a5c0ec17fcd635bd625910ea62d28821cf4a5d671f09", func := "grapevine/grapevinelaw21.JudgeCuts", spec := "judgeCuts", unfollowed := true, recurses := true, plainKeys := false, apart := false, narrowed := true }
def JudgeCutsUptoSaid : Prop := judgeCutsUptoRow.holds Try.pinned (OpenSpec.upto judgeCutsSpec)

end Rows
end Go.Proofs.Ytcpiccgnaecdkaa
