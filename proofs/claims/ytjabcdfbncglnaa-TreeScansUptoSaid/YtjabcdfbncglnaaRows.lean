/-
  No cell of these rows narrows 'for every input' (looked for: loops, veiled, ifaces, maps, wideKeys, modest, calm, conditions, laid).
  DERIVED. THE GIVEN ROWS OF THIS SEAT. 7 by the template 'for every input the law returns true; each argument reads behind the call as it read before'; 0 by the template 'total and deterministic' (their statements: YtjabcdfbncglnaaTotals.lean).
  GIVEN WITH THE SEED: the statements are not yours to turn. If you find one false, say at which input.
  Laid BY PROGRAM, IN A SANDBOX (cutbox-rows.mjs): the forced cells as the released guide's own fill.sh prints them over the translation aba7760bd032290c… (all of the seat's roots in one cut). By AI agents, Wed Nov 11 2026. No macro, syntax, notation, axiom, sorry.
-/
import Derived.Test.YtjabcdfbncglnaaChecked
import GoSem.Claim
import GoSem.ClaimJoined
import GoSem.ClaimMapViews
import Derived.JoinedTies
import Derived.KernelRfl
namespace Go.Proofs.Ytjabcdfbncglnaa
/- THE CELL 'sum', in the pinned program and in every row, IS THE sha256 OF THE DUMP (.gsa) THAT YtjabcdfbncglnaaProg.lean LOADS. Nothing in Lean hashes anything: it is a label: what it is worth is what the hold of that sum in a sandbox is worth. -/
noncomputable def Try.pinned : Pinned := { name := "ytjabcdfbncglnaa", sum := "aba7760bd032290c2fefd698f07ad01555e559fdecc0c4432a09f8fad58b4d1c", checked := Try.checked }
namespace Rows
def none {H : Type} : Left H := { results := [], args := [] }

/-- 'keystonelaw05.TreeRanks': WHATEVER THE INPUT: true; the input reads as it did. -/
def treeRanksSpec : ChangeSpec := { name := "treeRanks", fn := fun _ => fun
  | [d1, d2, d3] => { results := [.lit (.bool true)], args := [d1, d2, d3] }
  | _ => none }
def treeRanksRow : OpenClaim := { program := "ytjabcdfbncglnaa", sum := "aba7760bd032290c2fefd698f07ad01555e559fdecc0c4432a09f8fad58b4d1c", func := "keystone/keystonelaw05.TreeRanks", spec := "treeRanks", inPlace := ["slices.overlaps[string]", "slices.overlaps[int64]", "slices.overlaps[keystone/tree.node]"], unfollowed := true, recurses := true, apart := false }
def TreeRanksSaid : Prop := treeRanksRow.holds Try.pinned (OpenSpec.ofChange treeRanksSpec)

/-- ITS FALSE NEIGHBOUR: 'it returns false'. Refute it at one input. -/
def treeRanksWrong : ChangeSpec := { name := "treeRanks", fn := fun _ => fun
  | [d1, d2, d3] => { results := [.lit (.bool false)], args := [d1, d2, d3] }
  | _ => none }
def TreeRanksWrongFalsely : Prop := treeRanksRow.holds Try.pinned (OpenSpec.ofChange treeRanksWrong)

/-- 'keystonelaw05.TreeOwn': WHATEVER THE INPUT: true; the input reads as it did. -/
def treeOwnSpec : ChangeSpec := { name := "treeOwn", fn := fun _ => fun
  | [d1, d2] => { results := [.lit (.bool true)], args := [d1, d2] }
  | _ => none }
def treeOwnRow : OpenClaim := { program := "ytjabcdfbncglnaa", sum := "aba7760bd032290c2fefd698f07ad01555e559fdecc0c4432a09f8fad58b4d1c", func := "keystone/keystonelaw05.TreeOwn", spec := "treeOwn", inPlace := ["slices.overlaps[string]", "slices.overlaps[int64]", "slices.overlaps[keystone/tree.node]"], unfollowed := true, recurses := true, apart := false }
def TreeOwnSaid : Prop := treeOwnRow.holds Try.pinned (OpenSpec.ofChange treeOwnSpec)

/-- ITS FALSE NEIGHBOUR: 'it returns false'. Refute it at one input. -/
def treeOwnWrong : ChangeSpec := { name := "treeOwn", fn := fun _ => fun
  | [d1, d2] => { results := [.lit (.bool false)], args := [d1, d2] }
  | _ => none }
def TreeOwnWrongFalsely : Prop := treeOwnRow.holds Try.pinned (OpenSpec.ofChange treeOwnWrong)

/-- 'keystonelaw05.TreeForms': WHATEVER THE INPUT: true; the input reads as it did. -/
def treeFormsSpec : ChangeSpec := { name := "treeForms", fn := fun _ => fun
  | [d1, d2] => { results := [.lit (.bool true)], args := [d1, d2] }
  | _ => none }
def treeFormsRow : OpenClaim := { program := "ytjabcdfbncglnaa", sum := "aba7760bd032290c2fefd698f07ad01555e559fdecc0c4432a09f8fad58b4d1c", func := "keystone/keystonelaw05.TreeForms", spec := "treeForms", inPlace := ["slices.overlaps[string]", "slices.overlaps[int64]", "slices.overlaps[keystone/tree.node]"], unfollowed := true, recurses := true, apart := false }
def TreeFormsSaid : Prop := treeFormsRow.holds Try.pinned (OpenSpec.ofChange treeFormsSpec)

/-- ITS FALSE NEIGHBOUR: 'it returns false'. Refute it at one input. -/
def treeFormsWrong : ChangeSpec := { name := "treeForms", fn := fun _ => fun
  | [d1, d2] => { results := [.lit (.bool false)], args := [d1, d2] }
  | _ => none }
def TreeFormsWrongFalsely : Prop := treeFormsRow.holds Try.pinned (OpenSpec.ofChange treeFormsWrong)

/-- 'keystonelaw05.TreeScans': WHATEVER THE INPUT: true; the input reads as it did. -/
def treeScansSpec : ChangeSpec := { name := "treeScans", fn := fun _ => fun
  | [d1, d2, d3] => { results := [.lit (.bool true)], args := [d1, d2, d3] }
  | _ => none }
def treeScansRow : OpenClaim := { program := "ytjabcdfbncglnaa", sum := "aba7760bd032290c2fefd698f07ad01555e559fdecc0c4432a09f8fad58b4d1c", func := "keystone/keystonelaw05.TreeScans", spec := "treeScans", inPlace := ["slices.overlaps[string]", "slices.overlaps[int64]", "slices.overlaps[keystone/tree.node]"], unfollowed := true, recurses := true, apart := false }
def TreeScansSaid : Prop := treeScansRow.holds Try.pinned (OpenSpec.ofChange treeScansSpec)

/-- ITS FALSE NEIGHBOUR: 'it returns false'. Refute it at one input. -/
def treeScansWrong : ChangeSpec := { name := "treeScans", fn := fun _ => fun
  | [d1, d2, d3] => { results := [.lit (.bool false)], args := [d1, d2, d3] }
  | _ => none }
def TreeScansWrongFalsely : Prop := treeScansRow.holds Try.pinned (OpenSpec.ofChange treeScansWrong)

/-- 'keystonelaw05.TreeAnew': WHATEVER THE INPUT: true; the input reads as it did. -/
def treeAnewSpec : ChangeSpec := { name := "treeAnew", fn := fun _ => fun
  | [d1, d2, d3] => { results := [.lit (.bool true)], args := [d1, d2, d3] }
  | _ => none }
def treeAnewRow : OpenClaim := { program := "ytjabcdfbncglnaa", sum := "aba7760bd032290c2fefd698f07ad01555e559fdecc0c4432a09f8fad58b4d1c", func := "keystone/keystonelaw05.TreeAnew", spec := "treeAnew", inPlace := ["slices.overlaps[string]", "slices.overlaps[int64]", "slices.overlaps[keystone/tree.node]"], unfollowed := true, recurses := true, apart := false }
def TreeAnewSaid : Prop := treeAnewRow.holds Try.pinned (OpenSpec.ofChange treeAnewSpec)

/-- ITS FALSE NEIGHBOUR: 'it returns false'. Refute it at one input. -/
def treeAnewWrong : ChangeSpec := { name := "treeAnew", fn := fun _ => fun
  | [d1, d2, d3] => { results := [.lit (.bool false)], args := [d1, d2, d3] }
  | _ => none }
def TreeAnewWrongFalsely : Prop := treeAnewRow.holds Try.pinned (OpenSpec.ofChange treeAnewWrong)

/-- 'keystonelaw05.TreePlays': WHATEVER THE INPUT: true; the input reads as it did. -/
def treePlaysSpec : ChangeSpec := { name := "treePlays", fn := fun _ => fun
  | [d1, d2] => { results := [.lit (.bool true)], args := [d1, d2] }
  | _ => none }
def treePlaysRow : OpenClaim := { program := "ytjabcdfbncglnaa", sum := "aba7760bd032290c2fefd698f07ad01555e559fdecc0c4432a09f8fad58b4d1c", func := "keystone/keystonelaw05.TreePlays", spec := "treePlays", inPlace := ["slices.overlaps[string]", "slices.overlaps[int64]", "slices.overlaps[keystone/tree.node]"], unfollowed := true, recurses := true, apart := false }
def TreePlaysSaid : Prop := treePlaysRow.holds Try.pinned (OpenSpec.ofChange treePlaysSpec)

/-- ITS FALSE NEIGHBOUR: 'it returns false'. Refute it at one input. -/
def treePlaysWrong : ChangeSpec := { name := "treePlays", fn := fun _ => fun
  | [d1, d2] => { results := [.lit (.bool false)], args := [d1, d2] }
  | _ => none }
def TreePlaysWrongFalsely : Prop := treePlaysRow.holds Try.pinned (OpenSpec.ofChange treePlaysWrong)

/-- 'keystonelaw05.TreeNone': WHATEVER THE INPUT: true; the input reads as it did. -/
def treeNoneSpec : ChangeSpec := { name := "treeNone", fn := fun _ => fun
  | [d1, d2, d3] => { results := [.lit (.bool true)], args := [d1, d2, d3] }
  | _ => none }
def treeNoneRow : OpenClaim := { program := "ytjabcdfbncglnaa", sum := "aba7760bd032290c2fefd698f07ad01555e559fdecc0c4432a09f8fad58b4d1c", func := "keystone/keystonelaw05.TreeNone", spec := "treeNone", inPlace := ["slices.overlaps[string]", "slices.overlaps[int64]", "slices.overlaps[keystone/tree.node]"], unfollowed := true, recurses := true, apart := false }
def TreeNoneSaid : Prop := treeNoneRow.holds Try.pinned (OpenSpec.ofChange treeNoneSpec)

/-- ITS FALSE NEIGHBOUR: 'it returns false'. Refute it at one input. -/
def treeNoneWrong : ChangeSpec := { name := "treeNone", fn := fun _ => fun
  | [d1, d2, d3] => { results := [.lit (.bool false)], args := [d1, d2, d3] }
  | _ => none }
def TreeNoneWrongFalsely : Prop := treeNoneRow.holds Try.pinned (OpenSpec.ofChange treeNoneWrong)

/- THE SECOND FORM. 'bulk': how many values and letters a reading holds, each counted each time it is reached (what is shared counts as often as it is met; a slice's spare places count too). A statement '..UptoSaid' is the law's where the arguments, and the package variables that the reading takes, are together of bulk at most 1048576: NARROWER than '..Said'. Prove '..Said' where nothing that the law and all that it calls make is longer than what came in: it says more and counts as full. Else prove '..UptoSaid'. A law counts once. -/
mutual
def uptoBulk {H : Type} : DataW H → Nat
  | .lit (.string bytes) => bytes.length + 1
  | .lit _ => 1
  | .nil => 1
  | .ptr d => uptoBulk d + 1
  | .slice elems spare => uptoBulkAll elems + uptoBulkAll spare + 1
  | .agg parts => uptoBulkAll parts + 1
  | .iface _ d => uptoBulk d + 1
  | .map entries => uptoBulkEntries entries + 1
  | .held _ => 1
def uptoBulkAll {H : Type} : List (DataW H) → Nat
  | [] => 0
  | d :: r => uptoBulk d + uptoBulkAll r
def uptoBulkEntries {H : Type} : List (Lit × DataW H) → Nat
  | [] => 0
  | x :: r => uptoBulkEntry x + uptoBulkEntries r
def uptoBulkEntry {H : Type} : Lit × DataW H → Nat
  | (.string bytes, d) => bytes.length + uptoBulk d + 1
  | (_, d) => uptoBulk d + 1
 end
def uptoSmall : (H : Type) → List (DataW H) → Bool := fun _ ds => decide (uptoBulkAll ds ≤ 1048576)
def OpenSpec.upto (s : _root_.Go.ChangeSpec) : _root_.Go.OpenSpec := { _root_.Go.OpenSpec.ofChange s with cond := some uptoSmall }

/-- 'keystonelaw05.TreeRanks', WHERE WHAT IT READS IS OF BULK AT MOST 1048576: true; the input reads as it did. -/
def treeRanksUptoRow : OpenClaim := { program := "ytjabcdfbncglnaa", sum := "aba7760bd032290c2fefd698f07ad01555e559fdecc0c4432a09f8fad58b4d1c", func := "keystone/keystonelaw05.TreeRanks", spec := "treeRanks", inPlace := ["slices.overlaps[string]", "slices.overlaps[int64]", "slices.overlaps[keystone/tree.node]"], unfollowed := true, recurses := true, apart := false, narrowed := true }
def TreeRanksUptoSaid : Prop := treeRanksUptoRow.holds Try.pinned (OpenSpec.upto treeRanksSpec)

/-- 'keystonelaw05.TreeOwn', WHERE WHAT IT READS IS OF BULK AT MOST 1048576: true; the input reads as it did. -/
def treeOwnUptoRow : OpenClaim := { program := "ytjabcdfbncglnaa", sum := "aba7760bd032290c2fefd698f07ad01555e559fdecc0c4432a09f8fad58b4d1c", func := "keystone/keystonelaw05.TreeOwn", spec := "treeOwn", inPlace := ["slices.overlaps[string]", "slices.overlaps[int64]", "slices.overlaps[keystone/tree.node]"], unfollowed := true, recurses := true, apart := false, narrowed := true }
def TreeOwnUptoSaid : Prop := treeOwnUptoRow.holds Try.pinned (OpenSpec.upto treeOwnSpec)

/-- 'keystonelaw05.TreeForms', WHERE WHAT IT READS IS OF BULK AT MOST 1048576: true; the input reads as it did. -/
def treeFormsUptoRow : OpenClaim := { program := "ytjabcdfbncglnaa", sum := "aba7760bd032290c2fefd698f07ad01555e559fdecc0c4432a09f8fad58b4d1c", func := "keystone/keystonelaw05.TreeForms", spec := "treeForms", inPlace := ["slices.overlaps[string]", "slices.overlaps[int64]", "slices.overlaps[keystone/tree.node]"], unfollowed := true, recurses := true, apart := false, narrowed := true }
def TreeFormsUptoSaid : Prop := treeFormsUptoRow.holds Try.pinned (OpenSpec.upto treeFormsSpec)

/-- 'keystonelaw05.TreeScans', WHERE WHAT IT READS IS OF BULK AT MOST 1048576: true; the input reads as it did. -/
def treeScansUptoRow : OpenClaim := { program := "ytjabcdfbncglnaa", sum := "aba7760bd032290c2fefd698f07ad01555e559fdecc0c4432a09f8fad58b4d1c", func := "keystone/keystonelaw05.TreeScans", spec := "treeScans", inPlace := ["slices.overlaps[string]", "slices.overlaps[int64]", "slices.overlaps[keystone/tree.node]"], unfollowed := true, recurses := true, apart := false, narrowed := true }
def TreeScansUptoSaid : Prop := treeScansUptoRow.holds Try.pinned (OpenSpec.upto treeScansSpec)

/-- 'keystonelaw05.TreeAnew', WHERE WHAT IT READS IS OF BULK AT MOST 1048576: true; the input reads as it did. -/
def treeAnewUptoRow : OpenClaim := { program := "ytjabcdfbncglnaa", sum := "aba7760bd032290c2fefd698f07ad01555e559fdecc0c4432a09f8fad58b4d1c", func := "keystone/keystonelaw05.TreeAnew", spec := "treeAnew", inPlace := ["slices.overlaps[string]", "slices.overlaps[int64]", "slices.overlaps[keystone/tree.node]"], unfollowed := true, recurses := true, apart := false, narrowed := true }
def TreeAnewUptoSaid : Prop := treeAnewUptoRow.holds Try.pinned (OpenSpec.upto treeAnewSpec)

/-- 'keystonelaw05.TreePlays', WHERE WHAT IT READS IS OF BULK AT MOST 1048576: true; the input reads as it did. -/
def treePlaysUptoRow : OpenClaim := { program := "ytjabcdfbncglnaa", sum := "aba7760bd032290c2fefd698f07ad01555e559fdecc0c4432a09f8fad58b4d1c", func := "keystone/keystonelaw05.TreePlays", spec := "treePlays", inPlace := ["slices.overlaps[string]", "slices.overlaps[int64]", "slices.overlaps[keystone/tree.node]"], unfollowed := true, recurses := true, apart := false, narrowed := true }
def TreePlaysUptoSaid : Prop := treePlaysUptoRow.holds Try.pinned (OpenSpec.upto treePlaysSpec)

/-- 'keystonelaw05.TreeNone', WHERE WHAT IT READS IS OF BULK AT MOST 1048576: true; the input reads as it did. -/
def treeNoneUptoRow : OpenClaim := { program := "ytjabcdfbncglnaa", sum := "aba7760bd032290c2fefd698f07ad01555e559fdecc0c4432a09f8fad58b4d1c", func := "keystone/keystonelaw05.TreeNone", spec := "treeNone", inPlace := ["slices.overlaps[string]", "slices.overlaps[int64]", "slices.overlaps[keystone/tree.node]"], unfollowed := true, recurses := true, apart := false, narrowed := true }
def TreeNoneUptoSaid : Prop := treeNoneUptoRow.holds Try.pinned (OpenSpec.upto treeNoneSpec)

end Rows
end Go.Proofs.Ytjabcdfbncglnaa
