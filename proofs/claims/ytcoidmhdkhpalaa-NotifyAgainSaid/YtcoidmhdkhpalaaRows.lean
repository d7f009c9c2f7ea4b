/-
  No cell of these rows narrows 'for every input' (looked for: loops, veiled, ifaces, maps, wideKeys, modest, calm, conditions, laid).
  DERIVED. THE GIVEN ROWS OF THIS SEAT. 7 by the template 'for every input the law returns true; each argument reads behind the call as it read before'; 0 by the template 'total and deterministic' (their statements: YtcoidmhdkhpalaaTotals.lean).
  GIVEN WITH THE SEED: the statements are not yours to turn. If you find one false, say at which input.
  Laid BY PROGRAM, IN A SANDBOX (cutbox-rows.mjs): the forced cells as the released guide's own fill.sh prints them over the translation d1fc081802fa4f8b… (all of the seat's roots in one cut). By AI agents, Wed Nov 11 2026. No macro, syntax, notation, axiom, sorry.
-/
import Derived.Test.YtcoidmhdkhpalaaChecked
import GoSem.Claim
import GoSem.ClaimJoined
import GoSem.ClaimMapViews
import Derived.JoinedTies
import Derived.KernelRfl
namespace Go.Proofs.Ytcoidmhdkhpalaa
/- THE CELL 'sum', in the pinned program and in every row, IS THE sha256 OF THE DUMP (.gsa) THAT YtcoidmhdkhpalaaProg.lean LOADS. Nothing in Lean hashes anything: it is a label: what it is worth is what the hold of that sum in a sandbox is worth. -/
noncomputable def Try.pinned : Pinned := { name := "ytcoidmhdkhpalaa", sum := "d1fc081802fa4f8ba0e7f2941e0c7e834226d3ffa241d63f6b622517a97a04ec", checked := Try.checked }
namespace Rows
def none {H : Type} : Left H := { results := [], args := [] }

/-- 'codesearchlaw49.NotifyPosts': WHATEVER THE INPUT: true; the input reads as it did. -/
def notifyPostsSpec : ChangeSpec := { name := "notifyPosts", fn := fun _ => fun
  | [d1, d2] => { results := [.lit (.bool true)], args := [d1, d2] }
  | _ => none }
def notifyPostsRow : OpenClaim := { program := "ytcoidmhdkhpalaa", sum := "d1fc081802fa4f8ba0e7f2941e0c7e834226d3ffa241d63f6b622517a97a04ec", func := "codesearch/codesearchlaw49.NotifyPosts", spec := "notifyPosts", inPlace := ["slices.overlaps[codesearch/api.Letter]"], unfollowed := true, recurses := true, apart := false }
def NotifyPostsSaid : Prop := notifyPostsRow.holds Try.pinned (OpenSpec.ofChange notifyPostsSpec)

/-- ITS FALSE NEIGHBOUR: 'it returns false'. Refute it at one input. -/
def notifyPostsWrong : ChangeSpec := { name := "notifyPosts", fn := fun _ => fun
  | [d1, d2] => { results := [.lit (.bool false)], args := [d1, d2] }
  | _ => none }
def NotifyPostsWrongFalsely : Prop := notifyPostsRow.holds Try.pinned (OpenSpec.ofChange notifyPostsWrong)

/-- 'codesearchlaw49.NotifyReceives': WHATEVER THE INPUT: true; the input reads as it did. -/
def notifyReceivesSpec : ChangeSpec := { name := "notifyReceives", fn := fun _ => fun
  | [d1, d2] => { results := [.lit (.bool true)], args := [d1, d2] }
  | _ => none }
def notifyReceivesRow : OpenClaim := { program := "ytcoidmhdkhpalaa", sum := "d1fc081802fa4f8ba0e7f2941e0c7e834226d3ffa241d63f6b622517a97a04ec", func := "codesearch/codesearchlaw49.NotifyReceives", spec := "notifyReceives", inPlace := ["slices.overlaps[codesearch/api.Letter]"], unfollowed := true, recurses := true, apart := false }
def NotifyReceivesSaid : Prop := notifyReceivesRow.holds Try.pinned (OpenSpec.ofChange notifyReceivesSpec)

/-- ITS FALSE NEIGHBOUR: 'it returns false'. Refute it at one input. -/
def notifyReceivesWrong : ChangeSpec := { name := "notifyReceives", fn := fun _ => fun
  | [d1, d2] => { results := [.lit (.bool false)], args := [d1, d2] }
  | _ => none }
def NotifyReceivesWrongFalsely : Prop := notifyReceivesRow.holds Try.pinned (OpenSpec.ofChange notifyReceivesWrong)

/-- 'codesearchlaw49.NotifyAcks': WHATEVER THE INPUT: true; the input reads as it did. -/
def notifyAcksSpec : ChangeSpec := { name := "notifyAcks", fn := fun _ => fun
  | [d1, d2] => { results := [.lit (.bool true)], args := [d1, d2] }
  | _ => none }
def notifyAcksRow : OpenClaim := { program := "ytcoidmhdkhpalaa", sum := "d1fc081802fa4f8ba0e7f2941e0c7e834226d3ffa241d63f6b622517a97a04ec", func := "codesearch/codesearchlaw49.NotifyAcks", spec := "notifyAcks", inPlace := ["slices.overlaps[codesearch/api.Letter]"], unfollowed := true, recurses := true, apart := false }
def NotifyAcksSaid : Prop := notifyAcksRow.holds Try.pinned (OpenSpec.ofChange notifyAcksSpec)

/-- ITS FALSE NEIGHBOUR: 'it returns false'. Refute it at one input. -/
def notifyAcksWrong : ChangeSpec := { name := "notifyAcks", fn := fun _ => fun
  | [d1, d2] => { results := [.lit (.bool false)], args := [d1, d2] }
  | _ => none }
def NotifyAcksWrongFalsely : Prop := notifyAcksRow.holds Try.pinned (OpenSpec.ofChange notifyAcksWrong)

/-- 'codesearchlaw49.NotifyRights': WHATEVER THE INPUT: true; the input reads as it did. -/
def notifyRightsSpec : ChangeSpec := { name := "notifyRights", fn := fun _ => fun
  | [d1, d2, d3] => { results := [.lit (.bool true)], args := [d1, d2, d3] }
  | _ => none }
def notifyRightsRow : OpenClaim := { program := "ytcoidmhdkhpalaa", sum := "d1fc081802fa4f8ba0e7f2941e0c7e834226d3ffa241d63f6b622517a97a04ec", func := "codesearch/codesearchlaw49.NotifyRights", spec := "notifyRights", inPlace := ["slices.overlaps[codesearch/api.Letter]"], unfollowed := true, recurses := true, apart := false }
def NotifyRightsSaid : Prop := notifyRightsRow.holds Try.pinned (OpenSpec.ofChange notifyRightsSpec)

/-- ITS FALSE NEIGHBOUR: 'it returns false'. Refute it at one input. -/
def notifyRightsWrong : ChangeSpec := { name := "notifyRights", fn := fun _ => fun
  | [d1, d2, d3] => { results := [.lit (.bool false)], args := [d1, d2, d3] }
  | _ => none }
def NotifyRightsWrongFalsely : Prop := notifyRightsRow.holds Try.pinned (OpenSpec.ofChange notifyRightsWrong)

/-- 'codesearchlaw49.NotifyOnce': WHATEVER THE INPUT: true; the input reads as it did. -/
def notifyOnceSpec : ChangeSpec := { name := "notifyOnce", fn := fun _ => fun
  | [d] => { results := [.lit (.bool true)], args := [d] }
  | _ => none }
def notifyOnceRow : OpenClaim := { program := "ytcoidmhdkhpalaa", sum := "d1fc081802fa4f8ba0e7f2941e0c7e834226d3ffa241d63f6b622517a97a04ec", func := "codesearch/codesearchlaw49.NotifyOnce", spec := "notifyOnce", inPlace := ["slices.overlaps[codesearch/api.Letter]"], unfollowed := true, recurses := true, apart := false }
def NotifyOnceSaid : Prop := notifyOnceRow.holds Try.pinned (OpenSpec.ofChange notifyOnceSpec)

/-- ITS FALSE NEIGHBOUR: 'it returns false'. Refute it at one input. -/
def notifyOnceWrong : ChangeSpec := { name := "notifyOnce", fn := fun _ => fun
  | [d] => { results := [.lit (.bool false)], args := [d] }
  | _ => none }
def NotifyOnceWrongFalsely : Prop := notifyOnceRow.holds Try.pinned (OpenSpec.ofChange notifyOnceWrong)

/-- 'codesearchlaw49.NotifyRemains': WHATEVER THE INPUT: true; the input reads as it did. -/
def notifyRemainsSpec : ChangeSpec := { name := "notifyRemains", fn := fun _ => fun
  | [d1, d2, d3] => { results := [.lit (.bool true)], args := [d1, d2, d3] }
  | _ => none }
def notifyRemainsRow : OpenClaim := { program := "ytcoidmhdkhpalaa", sum := "d1fc081802fa4f8ba0e7f2941e0c7e834226d3ffa241d63f6b622517a97a04ec", func := "codesearch/codesearchlaw49.NotifyRemains", spec := "notifyRemains", inPlace := ["slices.overlaps[codesearch/api.Letter]"], unfollowed := true, recurses := true, apart := false }
def NotifyRemainsSaid : Prop := notifyRemainsRow.holds Try.pinned (OpenSpec.ofChange notifyRemainsSpec)

/-- ITS FALSE NEIGHBOUR: 'it returns false'. Refute it at one input. -/
def notifyRemainsWrong : ChangeSpec := { name := "notifyRemains", fn := fun _ => fun
  | [d1, d2, d3] => { results := [.lit (.bool false)], args := [d1, d2, d3] }
  | _ => none }
def NotifyRemainsWrongFalsely : Prop := notifyRemainsRow.holds Try.pinned (OpenSpec.ofChange notifyRemainsWrong)

/-- 'codesearchlaw49.NotifyAgain': WHATEVER THE INPUT: true; the input reads as it did. -/
def notifyAgainSpec : ChangeSpec := { name := "notifyAgain", fn := fun _ => fun
  | [d1, d2, d3] => { results := [.lit (.bool true)], args := [d1, d2, d3] }
  | _ => none }
def notifyAgainRow : OpenClaim := { program := "ytcoidmhdkhpalaa", sum := "d1fc081802fa4f8ba0e7f2941e0c7e834226d3ffa241d63f6b622517a97a04ec", func := "codesearch/codesearchlaw49.NotifyAgain", spec := "notifyAgain", inPlace := ["slices.overlaps[codesearch/api.Letter]"], unfollowed := true, recurses := true, apart := false }
def NotifyAgainSaid : Prop := notifyAgainRow.holds Try.pinned (OpenSpec.ofChange notifyAgainSpec)

/-- ITS FALSE NEIGHBOUR: 'it returns false'. Refute it at one input. -/
def notifyAgainWrong : ChangeSpec := { name := "notifyAgain", fn := fun _ => fun
  | [d1, d2, d3] => { results := [.lit (.bool false)], args := [d1, d2, d3] }
  | _ => none }
def NotifyAgainWrongFalsely : Prop := notifyAgainRow.holds Try.pinned (OpenSpec.ofChange notifyAgainWrong)

/- THE SECOND FORM. 'bulk': how many values and letters a reading holds, each counted each time it is reached (what is shared counts as often as it is met; a slice's spare places count too). A statement '..UptoSaid' is the law's where the arguments, and the package variables that the reading takes, are together of bulk at most 1048576: NARROWER than '..Said'. Prove '..Said' where nothing that the law and all that it calls make is longer than what came in: it says more and counts as full. Else prove '..UptoSaid'. A law counts once. -/
mutual
def uptoBulk {H : Type} : DataW H → Nat
  | .lit (.string bytes) => bytes.length + 1
  | .lit _ => 1
  | .nil => 1
  | .ptr d => uptoBulk d + 1
  | .slice elems spare => uptoBulkAll elems + uptoBulkAll spare + 1
  | .agg parts => uptoBulkAll parts + 1
  | .iface _ d => uptoBulk d + 1
  | .map entries => uptoBulkEntries entries + 1
  | .held _ => 1
def uptoBulkAll {H : Type} : List (DataW H) → Nat
  | [] => 0
  | d :: r => uptoBulk d + uptoBulkAll r
def uptoBulkEntries {H : Type} : List (Lit × DataW H) → Nat
  | [] => 0
  | x :: r => uptoBulkEntry x + uptoBulkEntries r
def uptoBulkEntry {H : Type} : Lit × DataW H → Nat
  | (.string bytes, d) => bytes.length + uptoBulk d + 1
  | (_, d) => uptoBulk d + 1
 end
def uptoSmall : (H : Type) → List (DataW H) → Bool := fun _ ds => decide (uptoBulkAll ds ≤ 1048576)
def OpenSpec.upto (s : _root_.Go.ChangeSpec) : _root_.Go.OpenSpec := { _root_.Go.OpenSpec.ofChange s with cond := some uptoSmall }

/-- 'codesearchlaw49.NotifyPosts', WHERE WHAT IT READS IS OF BULK AT MOST 1048576: true; the input reads as it did. -/
def notifyPostsUptoRow : OpenClaim := { program := "ytcoidmhdkhpalaa", sum := "d1fc081802fa4f8ba0e7f2941e0c7e834226d3ffa241d63f6b622517a97a04ec", func := "codesearch/codesearchlaw49.NotifyPosts", spec := "notifyPosts", inPlace := ["slices.overlaps[codesearch/api.Letter]"], unfollowed := true, recurses := true, apart := false, narrowed := true }
def NotifyPostsUptoSaid : Prop := notifyPostsUptoRow.holds Try.pinned (OpenSpec.upto notifyPostsSpec)

/-- 'codesearchlaw49.NotifyReceives', WHERE WHAT IT READS IS OF BULK AT MOST 1048576: true; the input reads as it did. -/
def notifyReceivesUptoRow : OpenClaim := { program := "ytcoidmhdkhpalaa", sum := "d1fc081802fa4f8ba0e7f2941e0c7e834226d3ffa241d63f6b622517a97a04ec", func := "codesearch/codesearchlaw49.NotifyReceives", spec := "notifyReceives", inPlace := ["slices.overlaps[codesearch/api.Letter]"], unfollowed := true, recurses := true, apart := false, narrowed := true }
def NotifyReceivesUptoSaid : Prop := notifyReceivesUptoRow.holds Try.pinned (OpenSpec.upto notifyReceivesSpec)

/-- 'codesearchlaw49.NotifyAcks', WHERE WHAT IT READS IS OF BULK AT MOST 1048576: true; the input reads as it did. -/
def notifyAcksUptoRow : OpenClaim := { program := "ytcoidmhdkhpalaa", sum := "d1fc081802fa4f8ba0e7f2941e0c7e834226d3ffa241d63f6b622517a97a04ec", func := "codesearch/codesearchlaw49.NotifyAcks", spec := "notifyAcks", inPlace := ["slices.overlaps[codesearch/api.Letter]"], unfollowed := true, recurses := true, apart := false, narrowed := true }
def NotifyAcksUptoSaid : Prop := notifyAcksUptoRow.holds Try.pinned (OpenSpec.upto notifyAcksSpec)

/-- 'codesearchlaw49.NotifyRights', WHERE WHAT IT READS IS OF BULK AT MOST 1048576: true; the input reads as it did. -/
def notifyRightsUptoRow : OpenClaim := { program := "ytcoidmhdkhpalaa", sum := "d1fc081802fa4f8ba0e7f2941e0c7e834226d3ffa241d63f6b622517a97a04ec", func := "codesearch/codesearchlaw49.NotifyRights", spec := "notifyRights", inPlace := ["slices.overlaps[codesearch/api.Letter]"], unfollowed := true, recurses := true, apart := false, narrowed := true }
def NotifyRightsUptoSaid : Prop := notifyRightsUptoRow.holds Try.pinned (OpenSpec.upto notifyRightsSpec)

/-- 'codesearchlaw49.NotifyOnce', WHERE WHAT IT READS IS OF BULK AT MOST 1048576: true; the input reads as it did. -/
def notifyOnceUptoRow : OpenClaim := { program := "ytcoidmhdkhpalaa", sum := "d1fc081802fa4f8ba0e7f2941e0c7e834226d3ffa241d63f6b622517a97a04ec", func := "codesearch/codesearchlaw49.NotifyOnce", spec := "notifyOnce", inPlace := ["slices.overlaps[codesearch/api.Letter]"], unfollowed := true, recurses := true, apart := false, narrowed := true }
def NotifyOnceUptoSaid : Prop := notifyOnceUptoRow.holds Try.pinned (OpenSpec.upto notifyOnceSpec)

/-- 'codesearchlaw49.NotifyRemains', WHERE WHAT IT READS IS OF BULK AT MOST 1048576: true; the input reads as it did. -/
def notifyRemainsUptoRow : OpenClaim := { program := "ytcoidmhdkhpalaa", sum := "d1fc081802fa4f8ba0e7f2941e0c7e834226d3ffa241d63f6b622517a97a04ec", func := "codesearch/codesearchlaw49.NotifyRemains", spec := "notifyRemains", inPlace := ["slices.overlaps[codesearch/api.Letter]"], unfollowed := true, recurses := true, apart := false, narrowed := true }
def NotifyRemainsUptoSaid : Prop := notifyRemainsUptoRow.holds Try.pinned (OpenSpec.upto notifyRemainsSpec)

/-- 'codesearchlaw49.NotifyAgain', WHERE WHAT IT READS IS OF BULK AT MOST 1048576: true; the input reads as it did. -/
def notifyAgainUptoRow : OpenClaim := { program := "ytcoidmhdkhpalaa", sum := "d1fc081802fa4f8ba0e7f2941e0c7e834226d3ffa241d63f6b622517a97a04ec", func := "codesearch/codesearchlaw49.NotifyAgain", spec := "notifyAgain", inPlace := ["slices.overlaps[codesearch/api.Letter]"], unfollowed := true, recurses := true, apart := false, narrowed := true }
def NotifyAgainUptoSaid : Prop := notifyAgainUptoRow.holds Try.pinned (OpenSpec.upto notifyAgainSpec)

end Rows
end Go.Proofs.Ytcoidmhdkhpalaa
