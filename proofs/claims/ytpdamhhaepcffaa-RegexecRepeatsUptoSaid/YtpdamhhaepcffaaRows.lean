/-
  NARROWER THAN 'FOR EVERY INPUT', by the rows' own cells (each row's printed sentence says how): RegexecEnds: loops · RegexecFinds: loops · RegexecAlls: loops · RegexecFirst: loops · RegexecJoins: loops · RegexecRepeats: loops · RegexecApart: loops.
  DERIVED. THE GIVEN ROWS OF THIS SEAT. 7 by the template 'for every input the law returns true; each argument reads behind the call as it read before'; 0 by the template 'total and deterministic' (their statements: YtpdamhhaepcffaaTotals.lean).
  GIVEN WITH THE SEED: the statements are not yours to turn. If you find one false, say at which input.
  Laid BY PROGRAM, IN A SANDBOX (cutbox-rows.mjs): the forced cells as the released guide's own fill.sh prints them over the translation 4218c5a86d4ad870… (all of the seat's roots in one cut). By AI agents, Wed Nov 11 2026. No macro, syntax, notation, axiom, sorry.
-/
import Derived.Test.YtpdamhhaepcffaaChecked
import GoSem.Claim
import GoSem.ClaimJoined
import GoSem.ClaimMapViews
import Derived.JoinedTies
import Derived.KernelRfl
namespace Go.Proofs.Ytpdamhhaepcffaa
/- THE CELL 'sum', in the pinned program and in every row, IS THE sha256 OF THE DUMP (.gsa) THAT YtpdamhhaepcffaaProg.lean LOADS. Nothing in Lean hashes anything: it is a label: what it is worth is what the hold of that sum in a sandbox is worth. -/
noncomputable def Try.pinned : Pinned := { name := "ytpdamhhaepcffaa", sum := "4218c5a86d4ad870af44238281fab1eb5145823d579685be192b232223ed09a4", checked := Try.checked }
namespace Rows
def none {H : Type} : Left H := { results := [], args := [] }

/-- 'codesearchlaw09.RegexecEnds': WHATEVER THE INPUT: true; the input reads as it did. -/
def regexecEndsSpec : ChangeSpec := { name := "regexecEnds", fn := fun _ => fun
  | [d1, d2, d3] => { results := [.lit (.bool true)], args := [d1, d2, d3] }
  | _ => none }
def regexecEndsRow : OpenClaim := { program := "ytpdamhhaepcffaa", sum := "4218c5a86d4ad870af44238281fab1eb5145823d579685be192b232223ed09a4", func := "codesearch/codesearchlaw09.RegexecEnds", spec := "regexecEnds", unfollowed := true, recurses := true, loops := true, apart := false }
def RegexecEndsSaid : Prop := regexecEndsRow.holds Try.pinned (OpenSpec.ofChange regexecEndsSpec)

/-- ITS FALSE NEIGHBOUR: 'it returns false'. Refute it at one input. -/
def regexecEndsWrong : ChangeSpec := { name := "regexecEnds", fn := fun _ => fun
  | [d1, d2, d3] => { results := [.lit (.bool false)], args := [d1, d2, d3] }
  | _ => none }
def RegexecEndsWrongFalsely : Prop := regexecEndsRow.holds Try.pinned (OpenSpec.ofChange regexecEndsWrong)

/-- 'codesearchlaw09.RegexecFinds': WHATEVER THE INPUT: true; the input reads as it did. -/
def regexecFindsSpec : ChangeSpec := { name := "regexecFinds", fn := fun _ => fun
  | [d1, d2, d3] => { results := [.lit (.bool true)], args := [d1, d2, d3] }
  | _ => none }
def regexecFindsRow : OpenClaim := { program := "ytpdamhhaepcffaa", sum := "4218c5a86d4ad870af44238281fab1eb5145823d579685be192b232223ed09a4", func := "codesearch/codesearchlaw09.RegexecFinds", spec := "regexecFinds", unfollowed := true, recurses := true, loops := true, apart := false }
def RegexecFindsSaid : Prop := regexecFindsRow.holds Try.pinned (OpenSpec.ofChange regexecFindsSpec)

/-- ITS FALSE NEIGHBOUR: 'it returns false'. Refute it at one input. -/
def regexecFindsWrong : ChangeSpec := { name := "regexecFinds", fn := fun _ => fun
  | [d1, d2, d3] => { results := [.lit (.bool false)], args := [d1, d2, d3] }
  | _ => none }
def RegexecFindsWrongFalsely : Prop := regexecFindsRow.holds Try.pinned (OpenSpec.ofChange regexecFindsWrong)

/-- 'codesearchlaw09.RegexecAlls': WHATEVER THE INPUT: true; the input reads as it did. -/
def regexecAllsSpec : ChangeSpec := { name := "regexecAlls", fn := fun _ => fun
  | [d1, d2] => { results := [.lit (.bool true)], args := [d1, d2] }
  | _ => none }
def regexecAllsRow : OpenClaim := { program := "ytpdamhhaepcffaa", sum := "4218c5a86d4ad870af44238281fab1eb5145823d579685be192b232223ed09a4", func := "codesearch/codesearchlaw09.RegexecAlls", spec := "regexecAlls", unfollowed := true, recurses := true, loops := true, apart := false }
def RegexecAllsSaid : Prop := regexecAllsRow.holds Try.pinned (OpenSpec.ofChange regexecAllsSpec)

/-- ITS FALSE NEIGHBOUR: 'it returns false'. Refute it at one input. -/
def regexecAllsWrong : ChangeSpec := { name := "regexecAlls", fn := fun _ => fun
  | [d1, d2] => { results := [.lit (.bool false)], args := [d1, d2] }
  | _ => none }
def RegexecAllsWrongFalsely : Prop := regexecAllsRow.holds Try.pinned (OpenSpec.ofChange regexecAllsWrong)

/-- 'codesearchlaw09.RegexecFirst': WHATEVER THE INPUT: true; the input reads as it did. -/
def regexecFirstSpec : ChangeSpec := { name := "regexecFirst", fn := fun _ => fun
  | [d1, d2, d3] => { results := [.lit (.bool true)], args := [d1, d2, d3] }
  | _ => none }
def regexecFirstRow : OpenClaim := { program := "ytpdamhhaepcffaa", sum := "4218c5a86d4ad870af44238281fab1eb5145823d579685be192b232223ed09a4", func := "codesearch/codesearchlaw09.RegexecFirst", spec := "regexecFirst", unfollowed := true, recurses := true, loops := true, apart := false }
def RegexecFirstSaid : Prop := regexecFirstRow.holds Try.pinned (OpenSpec.ofChange regexecFirstSpec)

/-- ITS FALSE NEIGHBOUR: 'it returns false'. Refute it at one input. -/
def regexecFirstWrong : ChangeSpec := { name := "regexecFirst", fn := fun _ => fun
  | [d1, d2, d3] => { results := [.lit (.bool false)], args := [d1, d2, d3] }
  | _ => none }
def RegexecFirstWrongFalsely : Prop := regexecFirstRow.holds Try.pinned (OpenSpec.ofChange regexecFirstWrong)

/-- 'codesearchlaw09.RegexecJoins': WHATEVER THE INPUT: true; the input reads as it did. -/
def regexecJoinsSpec : ChangeSpec := { name := "regexecJoins", fn := fun _ => fun
  | [d1, d2, d3] => { results := [.lit (.bool true)], args := [d1, d2, d3] }
  | _ => none }
def regexecJoinsRow : OpenClaim := { program := "ytpdamhhaepcffaa", sum := "4218c5a86d4ad870af44238281fab1eb5145823d579685be192b232223ed09a4", func := "codesearch/codesearchlaw09.RegexecJoins", spec := "regexecJoins", unfollowed := true, recurses := true, loops := true, apart := false }
def RegexecJoinsSaid : Prop := regexecJoinsRow.holds Try.pinned (OpenSpec.ofChange regexecJoinsSpec)

/-- ITS FALSE NEIGHBOUR: 'it returns false'. Refute it at one input. -/
def regexecJoinsWrong : ChangeSpec := { name := "regexecJoins", fn := fun _ => fun
  | [d1, d2, d3] => { results := [.lit (.bool false)], args := [d1, d2, d3] }
  | _ => none }
def RegexecJoinsWrongFalsely : Prop := regexecJoinsRow.holds Try.pinned (OpenSpec.ofChange regexecJoinsWrong)

/-- 'codesearchlaw09.RegexecRepeats': WHATEVER THE INPUT: true; the input reads as it did. -/
def regexecRepeatsSpec : ChangeSpec := { name := "regexecRepeats", fn := fun _ => fun
  | [d1, d2, d3] => { results := [.lit (.bool true)], args := [d1, d2, d3] }
  | _ => none }
def regexecRepeatsRow : OpenClaim := { program := "ytpdamhhaepcffaa", sum := "4218c5a86d4ad870af44238281fab1eb5145823d579685be192b232223ed09a4", func := "codesearch/codesearchlaw09.RegexecRepeats", spec := "regexecRepeats", unfollowed := true, recurses := true, loops := true, apart := false }
def RegexecRepeatsSaid : Prop := regexecRepeatsRow.holds Try.pinned (OpenSpec.ofChange regexecRepeatsSpec)

/-- ITS FALSE NEIGHBOUR: 'it returns false'. Refute it at one input. -/
def regexecRepeatsWrong : ChangeSpec := { name := "regexecRepeats", fn := fun _ => fun
  | [d1, d2, d3] => { results := [.lit (.bool false)], args := [d1, d2, d3] }
  | _ => none }
def RegexecRepeatsWrongFalsely : Prop := regexecRepeatsRow.holds Try.pinned (OpenSpec.ofChange regexecRepeatsWrong)

/-- 'codesearchlaw09.RegexecApart': WHATEVER THE INPUT: true; the input reads as it did. -/
def regexecApartSpec : ChangeSpec := { name := "regexecApart", fn := fun _ => fun
  | [d1, d2] => { results := [.lit (.bool true)], args := [d1, d2] }
  | _ => none }
def regexecApartRow : OpenClaim := { program := "ytpdamhhaepcffaa", sum := "4218c5a86d4ad870af44238281fab1eb5145823d579685be192b232223ed09a4", func := "codesearch/codesearchlaw09.RegexecApart", spec := "regexecApart", unfollowed := true, recurses := true, loops := true, apart := false }
def RegexecApartSaid : Prop := regexecApartRow.holds Try.pinned (OpenSpec.ofChange regexecApartSpec)

/-- ITS FALSE NEIGHBOUR: 'it returns false'. Refute it at one input. -/
def regexecApartWrong : ChangeSpec := { name := "regexecApart", fn := fun _ => fun
  | [d1, d2] => { results := [.lit (.bool false)], args := [d1, d2] }
  | _ => none }
def RegexecApartWrongFalsely : Prop := regexecApartRow.holds Try.pinned (OpenSpec.ofChange regexecApartWrong)

/- THE SECOND FORM. 'bulk': how many values and letters a reading holds, each counted each time it is reached (what is shared counts as often as it is met; a slice's spare places count too). A statement '..UptoSaid' is the law's where the arguments, and the package variables that the reading takes, are together of bulk at most 1048576: NARROWER than '..Said'. Prove '..Said' where nothing that the law and all that it calls make is longer than what came in: it says more and counts as full. Else prove '..UptoSaid'. A law counts once. -/
mutual
def uptoBulk {H : Type} : DataW H → Nat
  | .lit (.string bytes) => bytes.length + 1
  | .lit _ => 1
  | .nil => 1
  | .ptr d => uptoBulk d + 1
  | .slice elems spare => uptoBulkAll elems + uptoBulkAll spare + 1
  | .agg parts => uptoBulkAll parts + 1
  | .iface _ d => uptoBulk d + 1
  | .map entries => uptoBulkEntries entries + 1
  | .held _ => 1
def uptoBulkAll {H : Type} : List (DataW H) → Nat
  | [] => 0
  | d :: r => uptoBulk d + uptoBulkAll r
def uptoBulkEntries {H : Type} : List (Lit × DataW H) → Nat
  | [] => 0
  | x :: r => uptoBulkEntry x + uptoBulkEntries r
def uptoBulkEntry {H : Type} : Lit × DataW H → Nat
  | (.string bytes, d) => bytes.length + uptoBulk d + 1
  | (_, d) => uptoBulk d + 1
 end
def uptoSmall : (H : Type) → List (DataW H) → Bool := fun _ ds => decide (uptoBulkAll ds ≤ 1048576)
def OpenSpec.upto (s : _root_.Go.ChangeSpec) : _root_.Go.OpenSpec := { _root_.Go.OpenSpec.ofChange s with cond := some uptoSmall }

/-- 'codesearchlaw09.RegexecEnds', WHERE WHAT IT READS IS OF BULK AT MOST 1048576: true; the input reads as it did. -/
def regexecEndsUptoRow : OpenClaim := { program := "ytpdamhhaepcffaa", sum := "4218c5a86d4ad870af44238281fab1eb5145823d579685be192b232223ed09a4", func := "codesearch/codesearchlaw09.RegexecEnds", spec := "regexecEnds", unfollowed := true, recurses := true, loops := true, apart := false, narrowed := true }
def RegexecEndsUptoSaid : Prop := regexecEndsUptoRow.holds Try.pinned (OpenSpec.upto regexecEndsSpec)

/-- 'codesearchlaw09.RegexecFinds', WHERE WHAT IT READS IS OF BULK AT MOST 1048576: true; the input reads as it did. -/
def regexecFindsUptoRow : OpenClaim := { program := "ytpdamhhaepcffaa", sum := "4218c5a86d4ad870af44238281fab1eb5145823d579685be192b232223ed09a4", func := "codesearch/codesearchlaw09.RegexecFinds", spec := "regexecFinds", unfollowed := true, recurses := true, loops := true, apart := false, narrowed := true }
def RegexecFindsUptoSaid : Prop := regexecFindsUptoRow.holds Try.pinned (OpenSpec.upto regexecFindsSpec)

/-- 'codesearchlaw09.RegexecAlls', WHERE WHAT IT READS IS OF BULK AT MOST 1048576: true; the input reads as it did. -/
def regexecAllsUptoRow : OpenClaim := { program := "ytpdamhhaepcffaa", sum := "4218c5a86d4ad870af44238281fab1eb5145823d579685be192b232223ed09a4", func := "codesearch/codesearchlaw09.RegexecAlls", spec := "regexecAlls", unfollowed := true, recurses := true, loops := true, apart := false, narrowed := true }
def RegexecAllsUptoSaid : Prop := regexecAllsUptoRow.holds Try.pinned (OpenSpec.upto regexecAllsSpec)

/-- 'codesearchlaw09.RegexecFirst', WHERE WHAT IT READS IS OF BULK AT MOST 1048576: true; the input reads as it did. -/
def regexecFirstUptoRow : OpenClaim := { program := "ytpdamhhaepcffaa", sum := "4218c5a86d4ad870af44238281fab1eb5145823d579685be192b232223ed09a4", func := "codesearch/codesearchlaw09.RegexecFirst", spec := "regexecFirst", unfollowed := true, recurses := true, loops := true, apart := false, narrowed := true }
def RegexecFirstUptoSaid : Prop := regexecFirstUptoRow.holds Try.pinned (OpenSpec.upto regexecFirstSpec)

/-- 'codesearchlaw09.RegexecJoins', WHERE WHAT IT READS IS OF BULK AT MOST 1048576: true; the input reads as it did. -/
def regexecJoinsUptoRow : OpenClaim := { program := "ytpdamhhaepcffaa", sum := "4218c5a86d4ad870af44238281fab1eb5145823d579685be192b232223ed09a4", func := "codesearch/codesearchlaw09.RegexecJoins", spec := "regexecJoins", unfollowed := true, recurses := true, loops := true, apart := false, narrowed := true }
def RegexecJoinsUptoSaid : Prop := regexecJoinsUptoRow.holds Try.pinned (OpenSpec.upto regexecJoinsSpec)

/-- 'codesearchlaw09.RegexecRepeats', WHERE WHAT IT READS IS OF BULK AT MOST 1048576: true; the input reads as it did. -/
def regexecRepeatsUptoRow : OpenClaim := { program := "ytpdamhhaepcffaa", sum := "4218c5a86d4ad870af44238281fab1eb5145823d579685be192b232223ed09a4", func := "codesearch/codesearchlaw09.RegexecRepeats", spec := "regexecRepeats", unfollowed := true, recurses := true, loops := true, apart := false, narrowed := true }
def RegexecRepeatsUptoSaid : Prop := regexecRepeatsUptoRow.holds Try.pinned (OpenSpec.upto regexecRepeatsSpec)

/-- 'codesearchlaw09.RegexecApart', WHERE WHAT IT READS IS OF BULK AT MOST 1048576: true; the input reads as it did. -/
def regexecApartUptoRow : OpenClaim := { program := "ytpdamhhaepcffaa", sum := "4218c5a86d4ad870af44238281fab1eb5145823d579685be192b232223ed09a4", func := "codesearch/codesearchlaw09.RegexecApart", spec := "regexecApart", unfollowed := true, recurses := true, loops := true, apart := false, narrowed := true }
def RegexecApartUptoSaid : Prop := regexecApartUptoRow.holds Try.pinned (OpenSpec.upto regexecApartSpec)

end Rows
end Go.Proofs.Ytpdamhhaepcffaa
