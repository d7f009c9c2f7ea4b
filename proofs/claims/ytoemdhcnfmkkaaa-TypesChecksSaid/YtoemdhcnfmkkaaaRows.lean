/-
  No cell of these rows narrows 'for every input' (looked for: loops, veiled, ifaces, maps, wideKeys, modest, calm, conditions, laid).
  DERIVED. THE GIVEN ROWS OF THIS SEAT. 7 by the template 'for every input the law returns true; each argument reads behind the call as it read before'; 0 by the template 'total and deterministic' (their statements: YtoemdhcnfmkkaaaTotals.lean).
  GIVEN WITH THE SEED: the statements are not yours to turn. If you find one false, say at which input.
  Laid BY PROGRAM, IN A SANDBOX (cutbox-rows.mjs): the forced cells as the released guide's own fill.sh prints them over the translation c79dad4fd86a0403… (all of the seat's roots in one cut). By AI agents, Wed Nov 11 2026. No macro, syntax, notation, axiom, sorry.
-/
import Derived.Test.YtoemdhcnfmkkaaaChecked
import GoSem.Claim
import GoSem.ClaimJoined
import GoSem.ClaimMapViews
import Derived.JoinedTies
import Derived.KernelRfl
namespace Go.Proofs.Ytoemdhcnfmkkaaa
/- THE CELL 'sum', in the pinned program and in every row, IS THE sha256 OF THE DUMP (.gsa) THAT YtoemdhcnfmkkaaaProg.lean LOADS. Nothing in Lean hashes anything: it is a label: what it is worth is what the hold of that sum in a sandbox is worth. -/
noncomputable def Try.pinned : Pinned := { name := "ytoemdhcnfmkkaaa", sum := "c79dad4fd86a0403daad27c5a5c82bef857e1143ec252666b614c89249526f20", checked := Try.checked }
namespace Rows
def none {H : Type} : Left H := { results := [], args := [] }

/-- 'codesearchlaw15.TypesSupers': WHATEVER THE INPUT: true; the input reads as it did. -/
def typesSupersSpec : ChangeSpec := { name := "typesSupers", fn := fun _ => fun
  | [d1, d2, d3] => { results := [.lit (.bool true)], args := [d1, d2, d3] }
  | _ => none }
def typesSupersRow : OpenClaim := { program := "ytoemdhcnfmkkaaa", sum := "c79dad4fd86a0403daad27c5a5c82bef857e1143ec252666b614c89249526f20", func := "codesearch/codesearchlaw15.TypesSupers", spec := "typesSupers", unfollowed := true, recurses := true, apart := false }
def TypesSupersSaid : Prop := typesSupersRow.holds Try.pinned (OpenSpec.ofChange typesSupersSpec)

/-- ITS FALSE NEIGHBOUR: 'it returns false'. Refute it at one input. -/
def typesSupersWrong : ChangeSpec := { name := "typesSupers", fn := fun _ => fun
  | [d1, d2, d3] => { results := [.lit (.bool false)], args := [d1, d2, d3] }
  | _ => none }
def TypesSupersWrongFalsely : Prop := typesSupersRow.holds Try.pinned (OpenSpec.ofChange typesSupersWrong)

/-- 'codesearchlaw15.TypesFits': WHATEVER THE INPUT: true; the input reads as it did. -/
def typesFitsSpec : ChangeSpec := { name := "typesFits", fn := fun _ => fun
  | [d1, d2, d3] => { results := [.lit (.bool true)], args := [d1, d2, d3] }
  | _ => none }
def typesFitsRow : OpenClaim := { program := "ytoemdhcnfmkkaaa", sum := "c79dad4fd86a0403daad27c5a5c82bef857e1143ec252666b614c89249526f20", func := "codesearch/codesearchlaw15.TypesFits", spec := "typesFits", unfollowed := true, recurses := true, apart := false }
def TypesFitsSaid : Prop := typesFitsRow.holds Try.pinned (OpenSpec.ofChange typesFitsSpec)

/-- ITS FALSE NEIGHBOUR: 'it returns false'. Refute it at one input. -/
def typesFitsWrong : ChangeSpec := { name := "typesFits", fn := fun _ => fun
  | [d1, d2, d3] => { results := [.lit (.bool false)], args := [d1, d2, d3] }
  | _ => none }
def TypesFitsWrongFalsely : Prop := typesFitsRow.holds Try.pinned (OpenSpec.ofChange typesFitsWrong)

/-- 'codesearchlaw15.TypesChecks': WHATEVER THE INPUT: true; the input reads as it did. -/
def typesChecksSpec : ChangeSpec := { name := "typesChecks", fn := fun _ => fun
  | [d] => { results := [.lit (.bool true)], args := [d] }
  | _ => none }
def typesChecksRow : OpenClaim := { program := "ytoemdhcnfmkkaaa", sum := "c79dad4fd86a0403daad27c5a5c82bef857e1143ec252666b614c89249526f20", func := "codesearch/codesearchlaw15.TypesChecks", spec := "typesChecks", unfollowed := true, recurses := true, apart := false }
def TypesChecksSaid : Prop := typesChecksRow.holds Try.pinned (OpenSpec.ofChange typesChecksSpec)

/-- ITS FALSE NEIGHBOUR: 'it returns false'. Refute it at one input. -/
def typesChecksWrong : ChangeSpec := { name := "typesChecks", fn := fun _ => fun
  | [d] => { results := [.lit (.bool false)], args := [d] }
  | _ => none }
def TypesChecksWrongFalsely : Prop := typesChecksRow.holds Try.pinned (OpenSpec.ofChange typesChecksWrong)

/-- 'codesearchlaw15.TypesOrder': WHATEVER THE INPUT: true; the input reads as it did. -/
def typesOrderSpec : ChangeSpec := { name := "typesOrder", fn := fun _ => fun
  | [d1, d2] => { results := [.lit (.bool true)], args := [d1, d2] }
  | _ => none }
def typesOrderRow : OpenClaim := { program := "ytoemdhcnfmkkaaa", sum := "c79dad4fd86a0403daad27c5a5c82bef857e1143ec252666b614c89249526f20", func := "codesearch/codesearchlaw15.TypesOrder", spec := "typesOrder", unfollowed := true, recurses := true, apart := false }
def TypesOrderSaid : Prop := typesOrderRow.holds Try.pinned (OpenSpec.ofChange typesOrderSpec)

/-- ITS FALSE NEIGHBOUR: 'it returns false'. Refute it at one input. -/
def typesOrderWrong : ChangeSpec := { name := "typesOrder", fn := fun _ => fun
  | [d1, d2] => { results := [.lit (.bool false)], args := [d1, d2] }
  | _ => none }
def TypesOrderWrongFalsely : Prop := typesOrderRow.holds Try.pinned (OpenSpec.ofChange typesOrderWrong)

/-- 'codesearchlaw15.TypesFirst': WHATEVER THE INPUT: true; the input reads as it did. -/
def typesFirstSpec : ChangeSpec := { name := "typesFirst", fn := fun _ => fun
  | [d1, d2, d3] => { results := [.lit (.bool true)], args := [d1, d2, d3] }
  | _ => none }
def typesFirstRow : OpenClaim := { program := "ytoemdhcnfmkkaaa", sum := "c79dad4fd86a0403daad27c5a5c82bef857e1143ec252666b614c89249526f20", func := "codesearch/codesearchlaw15.TypesFirst", spec := "typesFirst", unfollowed := true, recurses := true, apart := false }
def TypesFirstSaid : Prop := typesFirstRow.holds Try.pinned (OpenSpec.ofChange typesFirstSpec)

/-- ITS FALSE NEIGHBOUR: 'it returns false'. Refute it at one input. -/
def typesFirstWrong : ChangeSpec := { name := "typesFirst", fn := fun _ => fun
  | [d1, d2, d3] => { results := [.lit (.bool false)], args := [d1, d2, d3] }
  | _ => none }
def TypesFirstWrongFalsely : Prop := typesFirstRow.holds Try.pinned (OpenSpec.ofChange typesFirstWrong)

/-- 'codesearchlaw15.TypesChains': WHATEVER THE INPUT: true; the input reads as it did. -/
def typesChainsSpec : ChangeSpec := { name := "typesChains", fn := fun _ => fun
  | [d1, d2, d3] => { results := [.lit (.bool true)], args := [d1, d2, d3] }
  | _ => none }
def typesChainsRow : OpenClaim := { program := "ytoemdhcnfmkkaaa", sum := "c79dad4fd86a0403daad27c5a5c82bef857e1143ec252666b614c89249526f20", func := "codesearch/codesearchlaw15.TypesChains", spec := "typesChains", unfollowed := true, recurses := true, apart := false }
def TypesChainsSaid : Prop := typesChainsRow.holds Try.pinned (OpenSpec.ofChange typesChainsSpec)

/-- ITS FALSE NEIGHBOUR: 'it returns false'. Refute it at one input. -/
def typesChainsWrong : ChangeSpec := { name := "typesChains", fn := fun _ => fun
  | [d1, d2, d3] => { results := [.lit (.bool false)], args := [d1, d2, d3] }
  | _ => none }
def TypesChainsWrongFalsely : Prop := typesChainsRow.holds Try.pinned (OpenSpec.ofChange typesChainsWrong)

/-- 'codesearchlaw15.TypesMembers': WHATEVER THE INPUT: true; the input reads as it did. -/
def typesMembersSpec : ChangeSpec := { name := "typesMembers", fn := fun _ => fun
  | [d1, d2, d3] => { results := [.lit (.bool true)], args := [d1, d2, d3] }
  | _ => none }
def typesMembersRow : OpenClaim := { program := "ytoemdhcnfmkkaaa", sum := "c79dad4fd86a0403daad27c5a5c82bef857e1143ec252666b614c89249526f20", func := "codesearch/codesearchlaw15.TypesMembers", spec := "typesMembers", unfollowed := true, recurses := true, apart := false }
def TypesMembersSaid : Prop := typesMembersRow.holds Try.pinned (OpenSpec.ofChange typesMembersSpec)

/-- ITS FALSE NEIGHBOUR: 'it returns false'. Refute it at one input. -/
def typesMembersWrong : ChangeSpec := { name := "typesMembers", fn := fun _ => fun
  | [d1, d2, d3] => { results := [.lit (.bool false)], args := [d1, d2, d3] }
  | _ => none }
def TypesMembersWrongFalsely : Prop := typesMembersRow.holds Try.pinned (OpenSpec.ofChange typesMembersWrong)

/- THE SECOND FORM. 'bulk': how many values and letters a reading holds, each counted each time it is reached (what is shared counts as often as it is met; a slice's spare places count too). A statement '..UptoSaid' is the law's where the arguments, and the package variables that the reading takes, are together of bulk at most 1048576: NARROWER than '..Said'. Prove '..Said' where nothing that the law and all that it calls make is longer than what came in: it says more and counts as full. Else prove '..UptoSaid'. A law counts once. -/
mutual
def uptoBulk {H : Type} : DataW H → Nat
  | .lit (.string bytes) => bytes.length + 1
  | .lit _ => 1
  | .nil => 1
  | .ptr d => uptoBulk d + 1
  | .slice elems spare => uptoBulkAll elems + uptoBulkAll spare + 1
  | .agg parts => uptoBulkAll parts + 1
  | .iface _ d => uptoBulk d + 1
  | .map entries => uptoBulkEntries entries + 1
  | .held _ => 1
def uptoBulkAll {H : Type} : List (DataW H) → Nat
  | [] => 0
  | d :: r => uptoBulk d + uptoBulkAll r
def uptoBulkEntries {H : Type} : List (Lit × DataW H) → Nat
  | [] => 0
  | x :: r => uptoBulkEntry x + uptoBulkEntries r
def uptoBulkEntry {H : Type} : Lit × DataW H → Nat
  | (.string bytes, d) => bytes.length + uptoBulk d + 1
  | (_, d) => uptoBulk d + 1
 end
def uptoSmall : (H : Type) → List (DataW H) → Bool := fun _ ds => decide (uptoBulkAll ds ≤ 1048576)
def OpenSpec.upto (s : _root_.Go.ChangeSpec) : _root_.Go.OpenSpec := { _root_.Go.OpenSpec.ofChange s with cond := some uptoSmall }

/-- 'codesearchlaw15.TypesSupers', WHERE WHAT IT READS IS OF BULK AT MOST 1048576: true; the input reads as it did. -/
def typesSupersUptoRow : OpenClaim := { program := "ytoemdhcnfmkkaaa", sum := "c79dad4fd86a0403daad27c5a5c82bef857e1143ec252666b614c89249526f20", func := "codesearch/codesearchlaw15.TypesSupers", spec := "typesSupers", unfollowed := true, recurses := true, apart := false, narrowed := true }
def TypesSupersUptoSaid : Prop := typesSupersUptoRow.holds Try.pinned (OpenSpec.upto typesSupersSpec)

/-- 'codesearchlaw15.TypesFits', WHERE WHAT IT READS IS OF BULK AT MOST 1048576: true; the input reads as it did. -/
def typesFitsUptoRow : OpenClaim := { program := "ytoemdhcnfmkkaaa", sum := "c79dad4fd86a0403daad27c5a5c82bef857e1143ec252666b614c89249526f20", func := "codesearch/codesearchlaw15.TypesFits", spec := "typesFits", unfollowed := true, recurses := true, apart := false, narrowed := true }
def TypesFitsUptoSaid : Prop := typesFitsUptoRow.holds Try.pinned (OpenSpec.upto typesFitsSpec)

/-- 'codesearchlaw15.TypesChecks', WHERE WHAT IT READS IS OF BULK AT MOST 1048576: true; the input reads as it did. -/
def typesChecksUptoRow : OpenClaim := { program := "ytoemdhcnfmkkaaa", sum := "c79dad4fd86a0403daad27c5a5c82bef857e1143ec252666b614c89249526f20", func := "codesearch/codesearchlaw15.TypesChecks", spec := "typesChecks", unfollowed := true, recurses := true, apart := false, narrowed := true }
def TypesChecksUptoSaid : Prop := typesChecksUptoRow.holds Try.pinned (OpenSpec.upto typesChecksSpec)

/-- 'codesearchlaw15.TypesOrder', WHERE WHAT IT READS IS OF BULK AT MOST 1048576: true; the input reads as it did. -/
def typesOrderUptoRow : OpenClaim := { program := "ytoemdhcnfmkkaaa", sum := "c79dad4fd86a0403daad27c5a5c82bef857e1143ec252666b614c89249526f20", func := "codesearch/codesearchlaw15.TypesOrder", spec := "typesOrder", unfollowed := true, recurses := true, apart := false, narrowed := true }
def TypesOrderUptoSaid : Prop := typesOrderUptoRow.holds Try.pinned (OpenSpec.upto typesOrderSpec)

/-- 'codesearchlaw15.TypesFirst', WHERE WHAT IT READS IS OF BULK AT MOST 1048576: true; the input reads as it did. -/
def typesFirstUptoRow : OpenClaim := { program := "ytoemdhcnfmkkaaa", sum := "c79dad4fd86a0403daad27c5a5c82bef857e1143ec252666b614c89249526f20", func := "codesearch/codesearchlaw15.TypesFirst", spec := "typesFirst", unfollowed := true, recurses := true, apart := false, narrowed := true }
def TypesFirstUptoSaid : Prop := typesFirstUptoRow.holds Try.pinned (OpenSpec.upto typesFirstSpec)

/-- 'codesearchlaw15.TypesChains', WHERE WHAT IT READS IS OF BULK AT MOST 1048576: true; the input reads as it did. -/
def typesChainsUptoRow : OpenClaim := { program := "ytoemdhcnfmkkaaa", sum := "c79dad4fd86a0403daad27c5a5c82bef857e1143ec252666b614c89249526f20", func := "codesearch/codesearchlaw15.TypesChains", spec := "typesChains", unfollowed := true, recurses := true, apart := false, narrowed := true }
def TypesChainsUptoSaid : Prop := typesChainsUptoRow.holds Try.pinned (OpenSpec.upto typesChainsSpec)

/-- 'codesearchlaw15.TypesMembers', WHERE WHAT IT READS IS OF BULK AT MOST 1048576: true; the input reads as it did. -/
def typesMembersUptoRow : OpenClaim := { program := "ytoemdhcnfmkkaaa", sum := "c79dad4fd86a0403daad27c5a5c82bef857e1143ec252666b614c89249526f20", func := "codesearch/codesearchlaw15.TypesMembers", spec := "typesMembers", unfollowed := true, recurses := true, apart := false, narrowed := true }
def TypesMembersUptoSaid : Prop := typesMembersUptoRow.holds Try.pinned (OpenSpec.upto typesMembersSpec)

end Rows
end Go.Proofs.Ytoemdhcnfmkkaaa
