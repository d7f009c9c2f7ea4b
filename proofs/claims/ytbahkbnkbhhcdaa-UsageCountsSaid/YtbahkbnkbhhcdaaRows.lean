/-
  No cell of these rows narrows 'for every input' (looked for: loops, veiled, ifaces, maps, wideKeys, modest, calm, conditions, laid).
  DERIVED. THE GIVEN ROWS OF THIS SEAT. 6 by the template 'for every input the law returns true; each argument reads behind the call as it read before'; 0 by the template 'total and deterministic' (their statements: YtbahkbnkbhhcdaaTotals.lean).
  GIVEN WITH THE SEED: the statements are not yours to turn. If you find one false, say at which input.
  Laid BY PROGRAM, IN A SANDBOX (cutbox-rows.mjs): the forced cells as the released guide's own fill.sh prints them over the translation 56d5e06cfc91d78e… (all of the seat's roots in one cut). By AI agents, Wed Nov 11 2026. No macro, syntax, notation, axiom, sorry.
-/
import Derived.Test.YtbahkbnkbhhcdaaChecked
import GoSem.Claim
import GoSem.ClaimJoined
import GoSem.ClaimMapViews
import Derived.JoinedTies
import Derived.KernelRfl
namespace Go.Proofs.Ytbahkbnkbhhcdaa
/- THE CELL 'sum', in the pinned program and in every row, IS THE sha256 OF THE DUMP (.gsa) THAT YtbahkbnkbhhcdaaProg.lean LOADS. Nothing in Lean hashes anything: it is a label: what it is worth is what the hold of that sum in a sandbox is worth. -/
noncomputable def Try.pinned : Pinned := { name := "ytbahkbnkbhhcdaa", sum := "56d5e06cfc91d78e0c65906a72d2dfadf63d8a3c1eb12aa67b8d9be74bc3b20e", checked := Try.checked }
namespace Rows
def none {H : Type} : Left H := { results := [], args := [] }

/-- 'codesearchlaw50.UsageAdds': WHATEVER THE INPUT: true; the input reads as it did. -/
def usageAddsSpec : ChangeSpec := { name := "usageAdds", fn := fun _ => fun
  | [d1, d2] => { results := [.lit (.bool true)], args := [d1, d2] }
  | _ => none }
def usageAddsRow : OpenClaim := { program := "ytbahkbnkbhhcdaa", sum := "56d5e06cfc91d78e0c65906a72d2dfadf63d8a3c1eb12aa67b8d9be74bc3b20e", func := "codesearch/codesearchlaw50.UsageAdds", spec := "usageAdds", inPlace := ["internal/bytealg.abigen_runtime_cmpstring"], unfollowed := true, recurses := true, apart := false }
def UsageAddsSaid : Prop := usageAddsRow.holds Try.pinned (OpenSpec.ofChange usageAddsSpec)

/-- ITS FALSE NEIGHBOUR: 'it returns false'. Refute it at one input. -/
def usageAddsWrong : ChangeSpec := { name := "usageAdds", fn := fun _ => fun
  | [d1, d2] => { results := [.lit (.bool false)], args := [d1, d2] }
  | _ => none }
def UsageAddsWrongFalsely : Prop := usageAddsRow.holds Try.pinned (OpenSpec.ofChange usageAddsWrong)

/-- 'codesearchlaw50.UsageAsks': WHATEVER THE INPUT: true; the input reads as it did. -/
def usageAsksSpec : ChangeSpec := { name := "usageAsks", fn := fun _ => fun
  | [d1, d2, d3] => { results := [.lit (.bool true)], args := [d1, d2, d3] }
  | _ => none }
def usageAsksRow : OpenClaim := { program := "ytbahkbnkbhhcdaa", sum := "56d5e06cfc91d78e0c65906a72d2dfadf63d8a3c1eb12aa67b8d9be74bc3b20e", func := "codesearch/codesearchlaw50.UsageAsks", spec := "usageAsks", inPlace := ["internal/bytealg.abigen_runtime_cmpstring"], unfollowed := true, recurses := true, apart := false }
def UsageAsksSaid : Prop := usageAsksRow.holds Try.pinned (OpenSpec.ofChange usageAsksSpec)

/-- ITS FALSE NEIGHBOUR: 'it returns false'. Refute it at one input. -/
def usageAsksWrong : ChangeSpec := { name := "usageAsks", fn := fun _ => fun
  | [d1, d2, d3] => { results := [.lit (.bool false)], args := [d1, d2, d3] }
  | _ => none }
def UsageAsksWrongFalsely : Prop := usageAsksRow.holds Try.pinned (OpenSpec.ofChange usageAsksWrong)

/-- 'codesearchlaw50.UsageSums': WHATEVER THE INPUT: true; the input reads as it did. -/
def usageSumsSpec : ChangeSpec := { name := "usageSums", fn := fun _ => fun
  | [d1, d2] => { results := [.lit (.bool true)], args := [d1, d2] }
  | _ => none }
def usageSumsRow : OpenClaim := { program := "ytbahkbnkbhhcdaa", sum := "56d5e06cfc91d78e0c65906a72d2dfadf63d8a3c1eb12aa67b8d9be74bc3b20e", func := "codesearch/codesearchlaw50.UsageSums", spec := "usageSums", inPlace := ["internal/bytealg.abigen_runtime_cmpstring"], unfollowed := true, recurses := true, apart := false }
def UsageSumsSaid : Prop := usageSumsRow.holds Try.pinned (OpenSpec.ofChange usageSumsSpec)

/-- ITS FALSE NEIGHBOUR: 'it returns false'. Refute it at one input. -/
def usageSumsWrong : ChangeSpec := { name := "usageSums", fn := fun _ => fun
  | [d1, d2] => { results := [.lit (.bool false)], args := [d1, d2] }
  | _ => none }
def UsageSumsWrongFalsely : Prop := usageSumsRow.holds Try.pinned (OpenSpec.ofChange usageSumsWrong)

/-- 'codesearchlaw50.UsageMerges': WHATEVER THE INPUT: true; the input reads as it did. -/
def usageMergesSpec : ChangeSpec := { name := "usageMerges", fn := fun _ => fun
  | [d1, d2, d3] => { results := [.lit (.bool true)], args := [d1, d2, d3] }
  | _ => none }
def usageMergesRow : OpenClaim := { program := "ytbahkbnkbhhcdaa", sum := "56d5e06cfc91d78e0c65906a72d2dfadf63d8a3c1eb12aa67b8d9be74bc3b20e", func := "codesearch/codesearchlaw50.UsageMerges", spec := "usageMerges", inPlace := ["internal/bytealg.abigen_runtime_cmpstring"], unfollowed := true, recurses := true, apart := false }
def UsageMergesSaid : Prop := usageMergesRow.holds Try.pinned (OpenSpec.ofChange usageMergesSpec)

/-- ITS FALSE NEIGHBOUR: 'it returns false'. Refute it at one input. -/
def usageMergesWrong : ChangeSpec := { name := "usageMerges", fn := fun _ => fun
  | [d1, d2, d3] => { results := [.lit (.bool false)], args := [d1, d2, d3] }
  | _ => none }
def UsageMergesWrongFalsely : Prop := usageMergesRow.holds Try.pinned (OpenSpec.ofChange usageMergesWrong)

/-- 'codesearchlaw50.UsageCounts': WHATEVER THE INPUT: true; the input reads as it did. -/
def usageCountsSpec : ChangeSpec := { name := "usageCounts", fn := fun _ => fun
  | [d1, d2] => { results := [.lit (.bool true)], args := [d1, d2] }
  | _ => none }
def usageCountsRow : OpenClaim := { program := "ytbahkbnkbhhcdaa", sum := "56d5e06cfc91d78e0c65906a72d2dfadf63d8a3c1eb12aa67b8d9be74bc3b20e", func := "codesearch/codesearchlaw50.UsageCounts", spec := "usageCounts", inPlace := ["internal/bytealg.abigen_runtime_cmpstring"], unfollowed := true, recurses := true, apart := false }
def UsageCountsSaid : Prop := usageCountsRow.holds Try.pinned (OpenSpec.ofChange usageCountsSpec)

/-- ITS FALSE NEIGHBOUR: 'it returns false'. Refute it at one input. -/
def usageCountsWrong : ChangeSpec := { name := "usageCounts", fn := fun _ => fun
  | [d1, d2] => { results := [.lit (.bool false)], args := [d1, d2] }
  | _ => none }
def UsageCountsWrongFalsely : Prop := usageCountsRow.holds Try.pinned (OpenSpec.ofChange usageCountsWrong)

/-- 'codesearchlaw50.UsageTop': WHATEVER THE INPUT: true; the input reads as it did. -/
def usageTopSpec : ChangeSpec := { name := "usageTop", fn := fun _ => fun
  | [d1, d2] => { results := [.lit (.bool true)], args := [d1, d2] }
  | _ => none }
def usageTopRow : OpenClaim := { program := "ytbahkbnkbhhcdaa", sum := "56d5e06cfc91d78e0c65906a72d2dfadf63d8a3c1eb12aa67b8d9be74bc3b20e", func := "codesearch/codesearchlaw50.UsageTop", spec := "usageTop", inPlace := ["internal/bytealg.abigen_runtime_cmpstring"], unfollowed := true, recurses := true, apart := false }
def UsageTopSaid : Prop := usageTopRow.holds Try.pinned (OpenSpec.ofChange usageTopSpec)

/-- ITS FALSE NEIGHBOUR: 'it returns false'. Refute it at one input. -/
def usageTopWrong : ChangeSpec := { name := "usageTop", fn := fun _ => fun
  | [d1, d2] => { results := [.lit (.bool false)], args := [d1, d2] }
  | _ => none }
def UsageTopWrongFalsely : Prop := usageTopRow.holds Try.pinned (OpenSpec.ofChange usageTopWrong)

/- THE SECOND FORM. 'bulk': how many values and letters a reading holds, each counted each time it is reached (what is shared counts as often as it is met; a slice's spare places count too). A statement '..UptoSaid' is the law's where the arguments, and the package variables that the reading takes, are together of bulk at most 1048576: NARROWER than '..Said'. Prove '..Said' where nothing that the law and all that it calls make is longer than what came in: it says more and counts as full. Else prove '..UptoSaid'. A law counts once. -/
mutual
def uptoBulk {H : Type} : DataW H → Nat
  | .lit (.string bytes) => bytes.length + 1
  | .lit _ => 1
  | .nil => 1
  | .ptr d => uptoBulk d + 1
  | .slice elems spare => uptoBulkAll elems + uptoBulkAll spare + 1
  | .agg parts => uptoBulkAll parts + 1
  | .iface _ d => uptoBulk d + 1
  | .map entries => uptoBulkEntries entries + 1
  | .held _ => 1
def uptoBulkAll {H : Type} : List (DataW H) → Nat
  | [] => 0
  | d :: r => uptoBulk d + uptoBulkAll r
def uptoBulkEntries {H : Type} : List (Lit × DataW H) → Nat
  | [] => 0
  | x :: r => uptoBulkEntry x + uptoBulkEntries r
def uptoBulkEntry {H : Type} : Lit × DataW H → Nat
  | (.string bytes, d) => bytes.length + uptoBulk d + 1
  | (_, d) => uptoBulk d + 1
 end
def uptoSmall : (H : Type) → List (DataW H) → Bool := fun _ ds => decide (uptoBulkAll ds ≤ 1048576)
def OpenSpec.upto (s : _root_.Go.ChangeSpec) : _root_.Go.OpenSpec := { _root_.Go.OpenSpec.ofChange s with cond := some uptoSmall }

/-- 'codesearchlaw50.UsageAdds', WHERE WHAT IT READS IS OF BULK AT MOST 1048576: true; the input reads as it did. -/
def usageAddsUptoRow : OpenClaim := { program := "ytbahkbnkbhhcdaa", sum := "56d5e06cfc91d78e0c65906a72d2dfadf63d8a3c1eb12aa67b8d9be74bc3b20e", func := "codesearch/codesearchlaw50.UsageAdds", spec := "usageAdds", inPlace := ["internal/bytealg.abigen_runtime_cmpstring"], unfollowed := true, recurses := true, apart := false, narrowed := true }
def UsageAddsUptoSaid : Prop := usageAddsUptoRow.holds Try.pinned (OpenSpec.upto usageAddsSpec)

/-- 'codesearchlaw50.UsageAsks', WHERE WHAT IT READS IS OF BULK AT MOST 1048576: true; the input reads as it did. -/
def usageAsksUptoRow : OpenClaim := { program := "ytbahkbnkbhhcdaa", sum := "56d5e06cfc91d78e0c65906a72d2dfadf63d8a3c1eb12aa67b8d9be74bc3b20e", func := "codesearch/codesearchlaw50.UsageAsks", spec := "usageAsks", inPlace := ["internal/bytealg.abigen_runtime_cmpstring"], unfollowed := true, recurses := true, apart := false, narrowed := true }
def UsageAsksUptoSaid : Prop := usageAsksUptoRow.holds Try.pinned (OpenSpec.upto usageAsksSpec)

/-- 'codesearchlaw50.UsageSums', WHERE WHAT IT READS IS OF BULK AT MOST 1048576: true; the input reads as it did. -/
def usageSumsUptoRow : OpenClaim := { program := "ytbahkbnkbhhcdaa", sum := "56d5e06cfc91d78e0c65906a72d2dfadf63d8a3c1eb12aa67b8d9be74bc3b20e", func := "codesearch/codesearchlaw50.UsageSums", spec := "usageSums", inPlace := ["internal/bytealg.abigen_runtime_cmpstring"], unfollowed := true, recurses := true, apart := false, narrowed := true }
def UsageSumsUptoSaid : Prop := usageSumsUptoRow.holds Try.pinned (OpenSpec.upto usageSumsSpec)

/-- 'codesearchlaw50.UsageMerges', WHERE WHAT IT READS IS OF BULK AT MOST 1048576: true; the input reads as it did. -/
def usageMergesUptoRow : OpenClaim := { program := "ytbahkbnkbhhcdaa", sum := "56d5e06cfc91d78e0c65906a72d2dfadf63d8a3c1eb12aa67b8d9be74bc3b20e", func := "codesearch/codesearchlaw50.UsageMerges", spec := "usageMerges", inPlace := ["internal/bytealg.abigen_runtime_cmpstring"], unfollowed := true, recurses := true, apart := false, narrowed := true }
def UsageMergesUptoSaid : Prop := usageMergesUptoRow.holds Try.pinned (OpenSpec.upto usageMergesSpec)

/-- 'codesearchlaw50.UsageCounts', WHERE WHAT IT READS IS OF BULK AT MOST 1048576: true; the input reads as it did. -/
def usageCountsUptoRow : OpenClaim := { program := "ytbahkbnkbhhcdaa", sum := "56d5e06cfc91d78e0c65906a72d2dfadf63d8a3c1eb12aa67b8d9be74bc3b20e", func := "codesearch/codesearchlaw50.UsageCounts", spec := "usageCounts", inPlace := ["internal/bytealg.abigen_runtime_cmpstring"], unfollowed := true, recurses := true, apart := false, narrowed := true }
def UsageCountsUptoSaid : Prop := usageCountsUptoRow.holds Try.pinned (OpenSpec.upto usageCountsSpec)

/-- 'codesearchlaw50.UsageTop', WHERE WHAT IT READS IS OF BULK AT MOST 1048576: true; the input reads as it did. -/
def usageTopUptoRow : OpenClaim := { program := "ytbahkbnkbhhcdaa", sum := "56d5e06cfc91d78e0c65906a72d2dfadf63d8a3c1eb12aa67b8d9be74bc3b20e", func := "codesearch/codesearchlaw50.UsageTop", spec := "usageTop", inPlace := ["internal/bytealg.abigen_runtime_cmpstring"], unfollowed := true, recurses := true, apart := false, narrowed := true }
def UsageTopUptoSaid : Prop := usageTopUptoRow.holds Try.pinned (OpenSpec.upto usageTopSpec)

end Rows
end Go.Proofs.Ytbahkbnkbhhcdaa
