/-
  No cell of these rows narrows 'for every input' (looked for: loops, veiled, ifaces, maps, wideKeys, modest, calm, conditions, laid).
  DERIVED. THE GIVEN ROWS OF THIS SEAT. 5 by the template 'for every input the law returns true; each argument reads behind the call as it read before'; 0 by the template 'total and deterministic' (their statements: YtjhhknmdnkkknaaTotals.lean).
  GIVEN WITH THE SEED: the statements are not yours to turn. If you find one false, say at which input.
  Laid BY PROGRAM, IN A SANDBOX (cutbox-rows.mjs): the forced cells as the released guide's own fill.sh prints them over the translation cce81864e1d08559… (all of the seat's roots in one cut). By AI agents, Wed Nov 11 2026. No macro, syntax, notation, axiom, sorry.
-/
import Derived.Test.YtjhhknmdnkkknaaChecked
import GoSem.Claim
import GoSem.ClaimJoined
import GoSem.ClaimMapViews
import Derived.JoinedTies
import Derived.KernelRfl
namespace Go.Proofs.Ytjhhknmdnkkknaa
/- THE CELL 'sum', in the pinned program and in every row, IS THE sha256 OF THE DUMP (.gsa) THAT YtjhhknmdnkkknaaProg.lean LOADS. Nothing in Lean hashes anything: it is a label: what it is worth is what the hold of that sum in a sandbox is worth. -/
noncomputable def Try.pinned : Pinned := { name := "ytjhhknmdnkkknaa", sum := "cce81864e1d08559b9eff30b684bb6512b7b864e39d6915e83a394d330e47e18", checked := Try.checked }
namespace Rows
def none {H : Type} : Left H := { results := [], args := [] }

/-- 'cofferlaw23.StatWrites': WHATEVER THE INPUT: true; the input reads as it did. -/
def statWritesSpec : ChangeSpec := { name := "statWrites", fn := fun _ => fun
  | [d] => { results := [.lit (.bool true)], args := [d] }
  | _ => none }
def statWritesRow : OpenClaim := { program := "ytjhhknmdnkkknaa", sum := "cce81864e1d08559b9eff30b684bb6512b7b864e39d6915e83a394d330e47e18", func := "coffer/cofferlaw23.StatWrites", spec := "statWrites", inPlace := ["internal/abi.NoEscape"], unfollowed := true, recurses := true, apart := false }
def StatWritesSaid : Prop := statWritesRow.holds Try.pinned (OpenSpec.ofChange statWritesSpec)

/-- ITS FALSE NEIGHBOUR: 'it returns false'. Refute it at one input. -/
def statWritesWrong : ChangeSpec := { name := "statWrites", fn := fun _ => fun
  | [d] => { results := [.lit (.bool false)], args := [d] }
  | _ => none }
def StatWritesWrongFalsely : Prop := statWritesRow.holds Try.pinned (OpenSpec.ofChange statWritesWrong)

/-- 'cofferlaw23.StatWindows': WHATEVER THE INPUT: true; the input reads as it did. -/
def statWindowsSpec : ChangeSpec := { name := "statWindows", fn := fun _ => fun
  | [d1, d2, d3] => { results := [.lit (.bool true)], args := [d1, d2, d3] }
  | _ => none }
def statWindowsRow : OpenClaim := { program := "ytjhhknmdnkkknaa", sum := "cce81864e1d08559b9eff30b684bb6512b7b864e39d6915e83a394d330e47e18", func := "coffer/cofferlaw23.StatWindows", spec := "statWindows", inPlace := ["internal/abi.NoEscape"], unfollowed := true, recurses := true, apart := false }
def StatWindowsSaid : Prop := statWindowsRow.holds Try.pinned (OpenSpec.ofChange statWindowsSpec)

/-- ITS FALSE NEIGHBOUR: 'it returns false'. Refute it at one input. -/
def statWindowsWrong : ChangeSpec := { name := "statWindows", fn := fun _ => fun
  | [d1, d2, d3] => { results := [.lit (.bool false)], args := [d1, d2, d3] }
  | _ => none }
def StatWindowsWrongFalsely : Prop := statWindowsRow.holds Try.pinned (OpenSpec.ofChange statWindowsWrong)

/-- 'cofferlaw23.StatBack': WHATEVER THE INPUT: true; the input reads as it did. -/
def statBackSpec : ChangeSpec := { name := "statBack", fn := fun _ => fun
  | [d1, d2] => { results := [.lit (.bool true)], args := [d1, d2] }
  | _ => none }
def statBackRow : OpenClaim := { program := "ytjhhknmdnkkknaa", sum := "cce81864e1d08559b9eff30b684bb6512b7b864e39d6915e83a394d330e47e18", func := "coffer/cofferlaw23.StatBack", spec := "statBack", inPlace := ["internal/abi.NoEscape"], unfollowed := true, recurses := true, apart := false }
def StatBackSaid : Prop := statBackRow.holds Try.pinned (OpenSpec.ofChange statBackSpec)

/-- ITS FALSE NEIGHBOUR: 'it returns false'. Refute it at one input. -/
def statBackWrong : ChangeSpec := { name := "statBack", fn := fun _ => fun
  | [d1, d2] => { results := [.lit (.bool false)], args := [d1, d2] }
  | _ => none }
def StatBackWrongFalsely : Prop := statBackRow.holds Try.pinned (OpenSpec.ofChange statBackWrong)

/-- 'cofferlaw23.StatReads': WHATEVER THE INPUT: true; the input reads as it did. -/
def statReadsSpec : ChangeSpec := { name := "statReads", fn := fun _ => fun
  | [d] => { results := [.lit (.bool true)], args := [d] }
  | _ => none }
def statReadsRow : OpenClaim := { program := "ytjhhknmdnkkknaa", sum := "cce81864e1d08559b9eff30b684bb6512b7b864e39d6915e83a394d330e47e18", func := "coffer/cofferlaw23.StatReads", spec := "statReads", inPlace := ["internal/abi.NoEscape"], unfollowed := true, recurses := true, apart := false }
def StatReadsSaid : Prop := statReadsRow.holds Try.pinned (OpenSpec.ofChange statReadsSpec)

/-- ITS FALSE NEIGHBOUR: 'it returns false'. Refute it at one input. -/
def statReadsWrong : ChangeSpec := { name := "statReads", fn := fun _ => fun
  | [d] => { results := [.lit (.bool false)], args := [d] }
  | _ => none }
def StatReadsWrongFalsely : Prop := statReadsRow.holds Try.pinned (OpenSpec.ofChange statReadsWrong)

/-- 'cofferlaw23.StatWhole': WHATEVER THE INPUT: true; the input reads as it did. -/
def statWholeSpec : ChangeSpec := { name := "statWhole", fn := fun _ => fun
  | [d1, d2] => { results := [.lit (.bool true)], args := [d1, d2] }
  | _ => none }
def statWholeRow : OpenClaim := { program := "ytjhhknmdnkkknaa", sum := "cce81864e1d08559b9eff30b684bb6512b7b864e39d6915e83a394d330e47e18", func := "coffer/cofferlaw23.StatWhole", spec := "statWhole", inPlace := ["internal/abi.NoEscape"], unfollowed := true, recurses := true, apart := false }
def StatWholeSaid : Prop := statWholeRow.holds Try.pinned (OpenSpec.ofChange statWholeSpec)

/-- ITS FALSE NEIGHBOUR: 'it returns false'. Refute it at one input. -/
def statWholeWrong : ChangeSpec := { name := "statWhole", fn := fun _ => fun
  | [d1, d2] => { results := [.lit (.bool false)], args := [d1, d2] }
  | _ => none }
def StatWholeWrongFalsely : Prop := statWholeRow.holds Try.pinned (OpenSpec.ofChange statWholeWrong)

/- THE SECOND FORM. 'bulk': how many values and letters a reading holds, each counted each time it is reached (what is shared counts as often as it is met; a slice's spare places count too). A statement '..UptoSaid' is the law's where the arguments, and the package variables that the reading takes, are together of bulk at most 1048576: NARROWER than '..Said'. Prove '..Said' where nothing that the law and all that it calls make is longer than what came in: it says more and counts as full. Else prove '..UptoSaid'. A law counts once. -/
mutual
def uptoBulk {H : Type} : DataW H → Nat
  | .lit (.string bytes) => bytes.length + 1
  | .lit _ => 1
  | .nil => 1
  | .ptr d => uptoBulk d + 1
  | .slice elems spare => uptoBulkAll elems + uptoBulkAll spare + 1
  | .agg parts => uptoBulkAll parts + 1
  | .iface _ d => uptoBulk d + 1
  | .map entries => uptoBulkEntries entries + 1
  | .held _ => 1
def uptoBulkAll {H : Type} : List (DataW H) → Nat
  | [] => 0
  | d :: r => uptoBulk d + uptoBulkAll r
def uptoBulkEntries {H : Type} : List (Lit × DataW H) → Nat
  | [] => 0
  | x :: r => uptoBulkEntry x + uptoBulkEntries r
def uptoBulkEntry {H : Type} : Lit × DataW H → Nat
  | (.string bytes, d) => bytes.length + uptoBulk d + 1
  | (_, d) => uptoBulk d + 1
 end
def uptoSmall : (H : Type) → List (DataW H) → Bool := fun _ ds => decide (uptoBulkAll ds ≤ 1048576)
def OpenSpec.upto (s : _root_.Go.ChangeSpec) : _root_.Go.OpenSpec := { _root_.Go.OpenSpec.ofChange s with cond := some uptoSmall }

/-- 'cofferlaw23.StatWrites', WHERE WHAT IT READS IS OF BULK AT MOST 1048576: true; the input reads as it did. -/
def statWritesUptoRow : OpenClaim := { program := "ytjhhknmdnkkknaa", sum := "cce81864e1d08559b9eff30b684bb6512b7b864e39d6915e83a394d330e47e18", func := "coffer/cofferlaw23.StatWrites", spec := "statWrites", inPlace := ["internal/abi.NoEscape"], unfollowed := true, recurses := true, apart := false, narrowed := true }
def StatWritesUptoSaid : Prop := statWritesUptoRow.holds Try.pinned (OpenSpec.upto statWritesSpec)

/-- 'cofferlaw23.StatWindows', WHERE WHAT IT READS IS OF BULK AT MOST 1048576: true; the input reads as it did. -/
def statWindowsUptoRow : OpenClaim := { program := "ytjhhknmdnkkknaa", sum := "cce81864e1d08559b9eff30b684bb6512b7b864e39d6915e83a394d330e47e18", func := "coffer/cofferlaw23.StatWindows", spec := "statWindows", inPlace := ["internal/abi.NoEscape"], unfollowed := true, recurses := true, apart := false, narrowed := true }
def StatWindowsUptoSaid : Prop := statWindowsUptoRow.holds Try.pinned (OpenSpec.upto statWindowsSpec)

/-- 'cofferlaw23.StatBack', WHERE WHAT IT READS IS OF BULK AT MOST 1048576: true; the input reads as it did. -/
def statBackUptoRow : OpenClaim := { program := "ytjhhknmdnkkknaa", sum := "cce81864e1d08559b9eff30b684bb6512b7b864e39d6915e83a394d330e47e18", func := "coffer/cofferlaw23.StatBack", spec := "statBack", inPlace := ["internal/abi.NoEscape"], unfollowed := true, recurses := true, apart := false, narrowed := true }
def StatBackUptoSaid : Prop := statBackUptoRow.holds Try.pinned (OpenSpec.upto statBackSpec)

/-- 'cofferlaw23.StatReads', WHERE WHAT IT READS IS OF BULK AT MOST 1048576: true; the input reads as it did. -/
def statReadsUptoRow : OpenClaim := { program := "ytjhhknmdnkkknaa", sum := "cce81864e1d08559b9eff30b684bb6512b7b864e39d6915e83a394d330e47e18", func := "coffer/cofferlaw23.StatReads", spec := "statReads", inPlace := ["internal/abi.NoEscape"], unfollowed := true, recurses := true, apart := false, narrowed := true }
def StatReadsUptoSaid : Prop := statReadsUptoRow.holds Try.pinned (OpenSpec.upto statReadsSpec)

/-- 'cofferlaw23.StatWhole', WHERE WHAT IT READS IS OF BULK AT MOST 1048576: true; the input reads as it did. -/
def statWholeUptoRow : OpenClaim := { program := "ytjhhknmdnkkknaa", sum := "cce81864e1d08559b9eff30b684bb6512b7b864e39d6915e83a394d330e47e18", func := "coffer/cofferlaw23.StatWhole", spec := "statWhole", inPlace := ["internal/abi.NoEscape"], unfollowed := true, recurses := true, apart := false, narrowed := true }
def StatWholeUptoSaid : Prop := statWholeUptoRow.holds Try.pinned (OpenSpec.upto statWholeSpec)

end Rows
end Go.Proofs.Ytjhhknmdnkkknaa
