/-
  No cell of these rows narrows 'for every input' (looked for: loops, veiled, ifaces, maps, wideKeys, modest, calm, conditions, laid).
  DERIVED. THE GIVEN ROWS OF THIS SEAT. 3 by the template 'for every input the law returns true; each argument reads behind the call as it read before'; 0 by the template 'total and deterministic' (their statements: YtgeejlfifeinmaaTotals.lean).
  GIVEN WITH THE SEED: the statements are not yours to turn. If you find one false, say at which input.
  Laid BY PROGRAM, IN A SANDBOX (cutbox-rows.mjs): the forced cells as the released guide's own fill.sh prints them over the translation 163774946d2e31bc… (all of the seat's roots in one cut). By AI agents, Wed Nov 11 2026. No macro, syntax, notation, axiom, sorry.
-/
import Derived.Test.YtgeejlfifeinmaaChecked
import GoSem.Claim
import GoSem.ClaimJoined
import GoSem.ClaimMapViews
import Derived.JoinedTies
import Derived.KernelRfl
namespace Go.Proofs.Ytgeejlfifeinmaa
/- THE CELL 'sum', in the pinned program and in every row, IS THE sha256 OF THE DUMP (.gsa) THAT YtgeejlfifeinmaaProg.lean LOADS. Nothing in Lean hashes anything: it is a label: what it is worth is what the hold of that sum in a sandbox is worth. -/
noncomputable def Try.pinned : Pinned := { name := "ytgeejlfifeinmaa", sum := "163774946d2e31bc8133d3693e9c084908fdb38ceaa2b4f12d1a4e474c72adbb", checked := Try.checked }
namespace Rows
def none {H : Type} : Left H := { results := [], args := [] }

/-- 'codesearchlaw24.BlobPuts': WHATEVER THE INPUT: true; the input reads as it did. -/
def blobPutsSpec : ChangeSpec := { name := "blobPuts", fn := fun _ => fun
  | [d1, d2] => { results := [.lit (.bool true)], args := [d1, d2] }
  | _ => none }
def blobPutsRow : OpenClaim := { program := "ytgeejlfifeinmaa", sum := "163774946d2e31bc8133d3693e9c084908fdb38ceaa2b4f12d1a4e474c72adbb", func := "codesearch/codesearchlaw24.BlobPuts", spec := "blobPuts", unfollowed := true, recurses := true, apart := false }
def BlobPutsSaid : Prop := blobPutsRow.holds Try.pinned (OpenSpec.ofChange blobPutsSpec)

/-- ITS FALSE NEIGHBOUR: 'it returns false'. Refute it at one input. -/
def blobPutsWrong : ChangeSpec := { name := "blobPuts", fn := fun _ => fun
  | [d1, d2] => { results := [.lit (.bool false)], args := [d1, d2] }
  | _ => none }
def BlobPutsWrongFalsely : Prop := blobPutsRow.holds Try.pinned (OpenSpec.ofChange blobPutsWrong)

/-- 'codesearchlaw24.BlobFresh': WHATEVER THE INPUT: true; the input reads as it did. -/
def blobFreshSpec : ChangeSpec := { name := "blobFresh", fn := fun _ => fun
  | [d1, d2, d3] => { results := [.lit (.bool true)], args := [d1, d2, d3] }
  | _ => none }
def blobFreshRow : OpenClaim := { program := "ytgeejlfifeinmaa", sum := "163774946d2e31bc8133d3693e9c084908fdb38ceaa2b4f12d1a4e474c72adbb", func := "codesearch/codesearchlaw24.BlobFresh", spec := "blobFresh", unfollowed := true, recurses := true, apart := false }
def BlobFreshSaid : Prop := blobFreshRow.holds Try.pinned (OpenSpec.ofChange blobFreshSpec)

/-- ITS FALSE NEIGHBOUR: 'it returns false'. Refute it at one input. -/
def blobFreshWrong : ChangeSpec := { name := "blobFresh", fn := fun _ => fun
  | [d1, d2, d3] => { results := [.lit (.bool false)], args := [d1, d2, d3] }
  | _ => none }
def BlobFreshWrongFalsely : Prop := blobFreshRow.holds Try.pinned (OpenSpec.ofChange blobFreshWrong)

/-- 'codesearchlaw24.BlobShares': WHATEVER THE INPUT: true; the input reads as it did. -/
def blobSharesSpec : ChangeSpec := { name := "blobShares", fn := fun _ => fun
  | [d1, d2, d3] => { results := [.lit (.bool true)], args := [d1, d2, d3] }
  | _ => none }
def blobSharesRow : OpenClaim := { program := "ytgeejlfifeinmaa", sum := "163774946d2e31bc8133d3693e9c084908fdb38ceaa2b4f12d1a4e474c72adbb", func := "codesearch/codesearchlaw24.BlobShares", spec := "blobShares", unfollowed := true, recurses := true, apart := false }
def BlobSharesSaid : Prop := blobSharesRow.holds Try.pinned (OpenSpec.ofChange blobSharesSpec)

/-- ITS FALSE NEIGHBOUR: 'it returns false'. Refute it at one input. -/
def blobSharesWrong : ChangeSpec := { name := "blobShares", fn := fun _ => fun
  | [d1, d2, d3] => { results := [.lit (.bool false)], args := [d1, d2, d3] }
  | _ => none }
def BlobSharesWrongFalsely : Prop := blobSharesRow.holds Try.pinned (OpenSpec.ofChange blobSharesWrong)

/- THE SECOND FORM. 'bulk': how many values and letters a reading holds, each counted each time it is reached (what is shared counts as often as it is met; a slice's spare places count too). A statement '..UptoSaid' is the law's where the arguments, and the package variables that the reading takes, are together of bulk at most 1048576: NARROWER than '..Said'. Prove '..Said' where nothing that the law and all that it calls make is longer than what came in: it says more and counts as full. Else prove '..UptoSaid'. A law counts once. -/
mutual
def uptoBulk {H : Type} : DataW H → Nat
  | .lit (.string bytes) => bytes.length + 1
  | .lit _ => 1
  | .nil => 1
  | .ptr d => uptoBulk d + 1
  | .slice elems spare => uptoBulkAll elems + uptoBulkAll spare + 1
  | .agg parts => uptoBulkAll parts + 1
  | .iface _ d => uptoBulk d + 1
  | .map entries => uptoBulkEntries entries + 1
  | .held _ => 1
def uptoBulkAll {H : Type} : List (DataW H) → Nat
  | [] => 0
  | d :: r => uptoBulk d + uptoBulkAll r
def uptoBulkEntries {H : Type} : List (Lit × DataW H) → Nat
  | [] => 0
  | x :: r => uptoBulkEntry x + uptoBulkEntries r
def uptoBulkEntry {H : Type} : Lit × DataW H → Nat
  | (.string bytes, d) => bytes.length + uptoBulk d + 1
  | (_, d) => uptoBulk d + 1
 end
def uptoSmall : (H : Type) → List (DataW H) → Bool := fun _ ds => decide (uptoBulkAll ds ≤ 1048576)
def OpenSpec.upto (s : _root_.Go.ChangeSpec) : _root_.Go.OpenSpec := { _root_.Go.OpenSpec.ofChange s with cond := some uptoSmall }

/-- 'codesearchlaw24.BlobPuts', WHERE WHAT IT READS IS OF BULK AT MOST 1048576: true; the input reads as it did. -/
def blobPutsUptoRow : OpenClaim := { program := "ytgeejlfifeinmaa", sum := "163774946d2e31bc8133d3693e9c084908fdb38ceaa2b4f12d1a4e474c72adbb", func := "codesearch/codesearchlaw24.BlobPuts", spec := "blobPuts", unfollowed := true, recurses := true, apart := false, narrowed := true }
def BlobPutsUptoSaid : Prop := blobPutsUptoRow.holds Try.pinned (OpenSpec.upto blobPutsSpec)

/-- 'codesearchlaw24.BlobFresh', WHERE WHAT IT READS IS OF BULK AT MOST 1048576: true; the input reads as it did. -/
def blobFreshUptoRow : OpenClaim := { program := "ytgeejlfifeinmaa", sum := "163774946d2e31bc8133d3693e9c084908fdb38ceaa2b4f12d1a4e474c72adbb", func := "codesearch/codesearchlaw24.BlobFresh", spec := "blobFresh", unfollowed := true, recurses := true, apart := false, narrowed := true }
def BlobFreshUptoSaid : Prop := blobFreshUptoRow.holds Try.pinned (OpenSpec.upto blobFreshSpec)

/-- 'codesearchlaw24.BlobShares', WHERE WHAT IT READS IS OF BULK AT MOST 1048576: true; the input reads as it did. -/
def blobSharesUptoRow : OpenClaim := { program := "ytgeejlfifeinmaa", sum := "163774946d2e31bc8133d3693e9c084908fdb38ceaa2b4f12d1a4e474c72adbb", func := "codesearch/codesearchlaw24.BlobShares", spec := "blobShares", unfollowed := true, recurses := true, apart := false, narrowed := true }
def BlobSharesUptoSaid : Prop := blobSharesUptoRow.holds Try.pinned (OpenSpec.upto blobSharesSpec)

end Rows
end Go.Proofs.Ytgeejlfifeinmaa
