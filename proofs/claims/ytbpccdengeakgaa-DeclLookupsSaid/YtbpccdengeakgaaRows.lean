/-
  No cell of these rows narrows 'for every input' (looked for: loops, veiled, ifaces, maps, wideKeys, modest, calm, conditions, laid).
  DERIVED. THE GIVEN ROWS OF THIS SEAT. 7 by the template 'for every input the law returns true; each argument reads behind the call as it read before'; 0 by the template 'total and deterministic' (their statements: YtbpccdengeakgaaTotals.lean).
  GIVEN WITH THE SEED: the statements are not yours to turn. If you find one false, say at which input.
  Laid BY PROGRAM, IN A SANDBOX (cutbox-rows.mjs): the forced cells as the released guide's own fill.sh prints them over the translation 8c589544a8a13134… (all of the seat's roots in one cut). By AI agents, Wed Nov 11 2026. No macro, syntax, notation, axiom, sorry.
-/
import Derived.Test.YtbpccdengeakgaaChecked
import GoSem.Claim
import GoSem.ClaimJoined
import GoSem.ClaimMapViews
import Derived.JoinedTies
import Derived.KernelRfl
namespace Go.Proofs.Ytbpccdengeakgaa
/- THE CELL 'sum', in the pinned program and in every row, IS THE sha256 OF THE DUMP (.gsa) THAT YtbpccdengeakgaaProg.lean LOADS. Nothing in Lean hashes anything: it is a label: what it is worth is what the hold of that sum in a sandbox is worth. -/
noncomputable def Try.pinned : Pinned := { name := "ytbpccdengeakgaa", sum := "8c589544a8a13134a1ad41472e2329be0e3dcc7221ab23705bc121e264f4c93d", checked := Try.checked }
namespace Rows
def none {H : Type} : Left H := { results := [], args := [] }

/-- 'codesearchlaw14.DeclModules': WHATEVER THE INPUT: true; the input reads as it did. -/
def declModulesSpec : ChangeSpec := { name := "declModules", fn := fun _ => fun
  | [d] => { results := [.lit (.bool true)], args := [d] }
  | _ => none }
def declModulesRow : OpenClaim := { program := "ytbpccdengeakgaa", sum := "8c589544a8a13134a1ad41472e2329be0e3dcc7221ab23705bc121e264f4c93d", func := "codesearch/codesearchlaw14.DeclModules", spec := "declModules", inPlace := ["internal/bytealg.IndexByteString", "internal/bytealg.IndexString"], recurses := true, named := ["internal/bytealg.MaxLen"], apart := false }
def DeclModulesSaid : Prop := declModulesRow.holds Try.pinned (OpenSpec.ofChange declModulesSpec)

/-- ITS FALSE NEIGHBOUR: 'it returns false'. Refute it at one input. -/
def declModulesWrong : ChangeSpec := { name := "declModules", fn := fun _ => fun
  | [d] => { results := [.lit (.bool false)], args := [d] }
  | _ => none }
def DeclModulesWrongFalsely : Prop := declModulesRow.holds Try.pinned (OpenSpec.ofChange declModulesWrong)

/-- 'codesearchlaw14.DeclAll': WHATEVER THE INPUT: true; the input reads as it did. -/
def declAllSpec : ChangeSpec := { name := "declAll", fn := fun _ => fun
  | [d] => { results := [.lit (.bool true)], args := [d] }
  | _ => none }
def declAllRow : OpenClaim := { program := "ytbpccdengeakgaa", sum := "8c589544a8a13134a1ad41472e2329be0e3dcc7221ab23705bc121e264f4c93d", func := "codesearch/codesearchlaw14.DeclAll", spec := "declAll", inPlace := ["internal/bytealg.IndexByteString", "internal/bytealg.IndexString"], recurses := true, named := ["internal/bytealg.MaxLen"], apart := false }
def DeclAllSaid : Prop := declAllRow.holds Try.pinned (OpenSpec.ofChange declAllSpec)

/-- ITS FALSE NEIGHBOUR: 'it returns false'. Refute it at one input. -/
def declAllWrong : ChangeSpec := { name := "declAll", fn := fun _ => fun
  | [d] => { results := [.lit (.bool false)], args := [d] }
  | _ => none }
def DeclAllWrongFalsely : Prop := declAllRow.holds Try.pinned (OpenSpec.ofChange declAllWrong)

/-- 'codesearchlaw14.DeclUnique': WHATEVER THE INPUT: true; the input reads as it did. -/
def declUniqueSpec : ChangeSpec := { name := "declUnique", fn := fun _ => fun
  | [d] => { results := [.lit (.bool true)], args := [d] }
  | _ => none }
def declUniqueRow : OpenClaim := { program := "ytbpccdengeakgaa", sum := "8c589544a8a13134a1ad41472e2329be0e3dcc7221ab23705bc121e264f4c93d", func := "codesearch/codesearchlaw14.DeclUnique", spec := "declUnique", inPlace := ["internal/bytealg.IndexByteString", "internal/bytealg.IndexString"], recurses := true, named := ["internal/bytealg.MaxLen"], apart := false }
def DeclUniqueSaid : Prop := declUniqueRow.holds Try.pinned (OpenSpec.ofChange declUniqueSpec)

/-- ITS FALSE NEIGHBOUR: 'it returns false'. Refute it at one input. -/
def declUniqueWrong : ChangeSpec := { name := "declUnique", fn := fun _ => fun
  | [d] => { results := [.lit (.bool false)], args := [d] }
  | _ => none }
def DeclUniqueWrongFalsely : Prop := declUniqueRow.holds Try.pinned (OpenSpec.ofChange declUniqueWrong)

/-- 'codesearchlaw14.DeclWhole': WHATEVER THE INPUT: true; the input reads as it did. -/
def declWholeSpec : ChangeSpec := { name := "declWhole", fn := fun _ => fun
  | [d] => { results := [.lit (.bool true)], args := [d] }
  | _ => none }
def declWholeRow : OpenClaim := { program := "ytbpccdengeakgaa", sum := "8c589544a8a13134a1ad41472e2329be0e3dcc7221ab23705bc121e264f4c93d", func := "codesearch/codesearchlaw14.DeclWhole", spec := "declWhole", inPlace := ["internal/bytealg.IndexByteString", "internal/bytealg.IndexString"], recurses := true, named := ["internal/bytealg.MaxLen"], apart := false }
def DeclWholeSaid : Prop := declWholeRow.holds Try.pinned (OpenSpec.ofChange declWholeSpec)

/-- ITS FALSE NEIGHBOUR: 'it returns false'. Refute it at one input. -/
def declWholeWrong : ChangeSpec := { name := "declWhole", fn := fun _ => fun
  | [d] => { results := [.lit (.bool false)], args := [d] }
  | _ => none }
def DeclWholeWrongFalsely : Prop := declWholeRow.holds Try.pinned (OpenSpec.ofChange declWholeWrong)

/-- 'codesearchlaw14.DeclInner': WHATEVER THE INPUT: true; the input reads as it did. -/
def declInnerSpec : ChangeSpec := { name := "declInner", fn := fun _ => fun
  | [d1, d2, d3] => { results := [.lit (.bool true)], args := [d1, d2, d3] }
  | _ => none }
def declInnerRow : OpenClaim := { program := "ytbpccdengeakgaa", sum := "8c589544a8a13134a1ad41472e2329be0e3dcc7221ab23705bc121e264f4c93d", func := "codesearch/codesearchlaw14.DeclInner", spec := "declInner", inPlace := ["internal/bytealg.IndexByteString", "internal/bytealg.IndexString"], recurses := true, named := ["internal/bytealg.MaxLen"], apart := false }
def DeclInnerSaid : Prop := declInnerRow.holds Try.pinned (OpenSpec.ofChange declInnerSpec)

/-- ITS FALSE NEIGHBOUR: 'it returns false'. Refute it at one input. -/
def declInnerWrong : ChangeSpec := { name := "declInner", fn := fun _ => fun
  | [d1, d2, d3] => { results := [.lit (.bool false)], args := [d1, d2, d3] }
  | _ => none }
def DeclInnerWrongFalsely : Prop := declInnerRow.holds Try.pinned (OpenSpec.ofChange declInnerWrong)

/-- 'codesearchlaw14.DeclSearch': WHATEVER THE INPUT: true; the input reads as it did. -/
def declSearchSpec : ChangeSpec := { name := "declSearch", fn := fun _ => fun
  | [d] => { results := [.lit (.bool true)], args := [d] }
  | _ => none }
def declSearchRow : OpenClaim := { program := "ytbpccdengeakgaa", sum := "8c589544a8a13134a1ad41472e2329be0e3dcc7221ab23705bc121e264f4c93d", func := "codesearch/codesearchlaw14.DeclSearch", spec := "declSearch", inPlace := ["internal/bytealg.IndexByteString", "internal/bytealg.IndexString"], recurses := true, named := ["internal/bytealg.MaxLen"], apart := false }
def DeclSearchSaid : Prop := declSearchRow.holds Try.pinned (OpenSpec.ofChange declSearchSpec)

/-- ITS FALSE NEIGHBOUR: 'it returns false'. Refute it at one input. -/
def declSearchWrong : ChangeSpec := { name := "declSearch", fn := fun _ => fun
  | [d] => { results := [.lit (.bool false)], args := [d] }
  | _ => none }
def DeclSearchWrongFalsely : Prop := declSearchRow.holds Try.pinned (OpenSpec.ofChange declSearchWrong)

/-- 'codesearchlaw14.DeclLookups': WHATEVER THE INPUT: true; the input reads as it did. -/
def declLookupsSpec : ChangeSpec := { name := "declLookups", fn := fun _ => fun
  | [d1, d2] => { results := [.lit (.bool true)], args := [d1, d2] }
  | _ => none }
def declLookupsRow : OpenClaim := { program := "ytbpccdengeakgaa", sum := "8c589544a8a13134a1ad41472e2329be0e3dcc7221ab23705bc121e264f4c93d", func := "codesearch/codesearchlaw14.DeclLookups", spec := "declLookups", inPlace := ["internal/bytealg.IndexByteString", "internal/bytealg.IndexString"], recurses := true, named := ["internal/bytealg.MaxLen"], apart := false }
def DeclLookupsSaid : Prop := declLookupsRow.holds Try.pinned (OpenSpec.ofChange declLookupsSpec)

/-- ITS FALSE NEIGHBOUR: 'it returns false'. Refute it at one input. -/
def declLookupsWrong : ChangeSpec := { name := "declLookups", fn := fun _ => fun
  | [d1, d2] => { results := [.lit (.bool false)], args := [d1, d2] }
  | _ => none }
def DeclLookupsWrongFalsely : Prop := declLookupsRow.holds Try.pinned (OpenSpec.ofChange declLookupsWrong)

/- THE SECOND FORM. 'bulk': how many values and letters a reading holds, each counted each time it is reached (what is shared counts as often as it is met; a slice's spare places count too). A statement '..UptoSaid' is the law's where the arguments, and the package variables that the reading takes, are together of bulk at most 1048576: NARROWER than '..Said'. Prove '..Said' where nothing that the law and all that it calls make is longer than what came in: it says more and counts as full. Else prove '..UptoSaid'. A law counts once. -/
mutual
def uptoBulk {H : Type} : DataW H → Nat
  | .lit (.string bytes) => bytes.length + 1
  | .lit _ => 1
  | .nil => 1
  | .ptr d => uptoBulk d + 1
  | .slice elems spare => uptoBulkAll elems + uptoBulkAll spare + 1
  | .agg parts => uptoBulkAll parts + 1
  | .iface _ d => uptoBulk d + 1
  | .map entries => uptoBulkEntries entries + 1
  | .held _ => 1
def uptoBulkAll {H : Type} : List (DataW H) → Nat
  | [] => 0
  | d :: r => uptoBulk d + uptoBulkAll r
def uptoBulkEntries {H : Type} : List (Lit × DataW H) → Nat
  | [] => 0
  | x :: r => uptoBulkEntry x + uptoBulkEntries r
def uptoBulkEntry {H : Type} : Lit × DataW H → Nat
  | (.string bytes, d) => bytes.length + uptoBulk d + 1
  | (_, d) => uptoBulk d + 1
 end
def uptoSmall : (H : Type) → List (DataW H) → Bool := fun _ ds => decide (uptoBulkAll ds ≤ 1048576)
def OpenSpec.upto (s : _root_.Go.ChangeSpec) : _root_.Go.OpenSpec := { _root_.Go.OpenSpec.ofChange s with cond := some uptoSmall }

/-- 'codesearchlaw14.DeclModules', WHERE WHAT IT READS IS OF BULK AT MOST 1048576: true; the input reads as it did. -/
def declModulesUptoRow : OpenClaim := { program := "ytbpccdengeakgaa", sum := "8c589544a8a13134a1ad41472e2329be0e3dcc7221ab23705bc121e264f4c93d", func := "codesearch/codesearchlaw14.DeclModules", spec := "declModules", inPlace := ["internal/bytealg.IndexByteString", "internal/bytealg.IndexString"], recurses := true, named := ["internal/bytealg.MaxLen"], apart := false, narrowed := true }
def DeclModulesUptoSaid : Prop := declModulesUptoRow.holds Try.pinned (OpenSpec.upto declModulesSpec)

/-- 'codesearchlaw14.DeclAll', WHERE WHAT IT READS IS OF BULK AT MOST 1048576: true; the input reads as it did. -/
def declAllUptoRow : OpenClaim := { program := "ytbpccdengeakgaa", sum := "8c589544a8a13134a1ad41472e2329be0e3dcc7221ab23705bc121e264f4c93d", func := "codesearch/codesearchlaw14.DeclAll", spec := "declAll", inPlace := ["internal/bytealg.IndexByteString", "internal/bytealg.IndexString"], recurses := true, named := ["internal/bytealg.MaxLen"], apart := false, narrowed := true }
def DeclAllUptoSaid : Prop := declAllUptoRow.holds Try.pinned (OpenSpec.upto declAllSpec)

/-- 'codesearchlaw14.DeclUnique', WHERE WHAT IT READS IS OF BULK AT MOST 1048576: true; the input reads as it did. -/
def declUniqueUptoRow : OpenClaim := { program := "ytbpccdengeakgaa", sum := "8c589544a8a13134a1ad41472e2329be0e3dcc7221ab23705bc121e264f4c93d", func := "codesearch/codesearchlaw14.DeclUnique", spec := "declUnique", inPlace := ["internal/bytealg.IndexByteString", "internal/bytealg.IndexString"], recurses := true, named := ["internal/bytealg.MaxLen"], apart := false, narrowed := true }
def DeclUniqueUptoSaid : Prop := declUniqueUptoRow.holds Try.pinned (OpenSpec.upto declUniqueSpec)

/-- 'codesearchlaw14.DeclWhole', WHERE WHAT IT READS IS OF BULK AT MOST 1048576: true; the input reads as it did. -/
def declWholeUptoRow : OpenClaim := { program := "ytbpccdengeakgaa", sum := "8c589544a8a13134a1ad41472e2329be0e3dcc7221ab23705bc121e264f4c93d", func := "codesearch/codesearchlaw14.DeclWhole", spec := "declWhole", inPlace := ["internal/bytealg.IndexByteString", "internal/bytealg.IndexString"], recurses := true, named := ["internal/bytealg.MaxLen"], apart := false, narrowed := true }
def DeclWholeUptoSaid : Prop := declWholeUptoRow.holds Try.pinned (OpenSpec.upto declWholeSpec)

/-- 'codesearchlaw14.DeclInner', WHERE WHAT IT READS IS OF BULK AT MOST 1048576: true; the input reads as it did. -/
def declInnerUptoRow : OpenClaim := { program := "ytbpccdengeakgaa", sum := "8c589544a8a13134a1ad41472e2329be0e3dcc7221ab23705bc121e264f4c93d", func := "codesearch/codesearchlaw14.DeclInner", spec := "declInner", inPlace := ["internal/bytealg.IndexByteString", "internal/bytealg.IndexString"], recurses := true, named := ["internal/bytealg.MaxLen"], apart := false, narrowed := true }
def DeclInnerUptoSaid : Prop := declInnerUptoRow.holds Try.pinned (OpenSpec.upto declInnerSpec)

/-- 'codesearchlaw14.DeclSearch', WHERE WHAT IT READS IS OF BULK AT MOST 1048576: true; the input reads as it did. -/
def declSearchUptoRow : OpenClaim := { program := "ytbpccdengeakgaa", sum := "8c589544a8a13134a1ad41472e2329be0e3dcc7221ab23705bc121e264f4c93d", func := "codesearch/codesearchlaw14.DeclSearch", spec := "declSearch", inPlace := ["internal/bytealg.IndexByteString", "internal/bytealg.IndexString"], recurses := true, named := ["internal/bytealg.MaxLen"], apart := false, narrowed := true }
def DeclSearchUptoSaid : Prop := declSearchUptoRow.holds Try.pinned (OpenSpec.upto declSearchSpec)

/-- 'codesearchlaw14.DeclLookups', WHERE WHAT IT READS IS OF BULK AT MOST 1048576: true; the input reads as it did. -/
def declLookupsUptoRow : OpenClaim := { program := "ytbpccdengeakgaa", sum := "8c589544a8a13134a1ad41472e2329be0e3dcc7221ab23705bc121e264f4c93d", func := "codesearch/codesearchlaw14.DeclLookups", spec := "declLookups", inPlace := ["internal/bytealg.IndexByteString", "internal/bytealg.IndexString"], recurses := true, named := ["internal/bytealg.MaxLen"], apart := false, narrowed := true }
def DeclLookupsUptoSaid : Prop := declLookupsUptoRow.holds Try.pinned (OpenSpec.upto declLookupsSpec)

end Rows
end Go.Proofs.Ytbpccdengeakgaa
