/-
  No cell of these rows narrows 'for every input' (looked for: loops, veiled, ifaces, maps, wideKeys, modest, calm, conditions, laid).
  DERIVED. THE GIVEN ROWS OF THIS SEAT. 4 by the template 'for every input the law returns true; each argument reads behind the call as it read before'; 0 by the template 'total and deterministic' (their statements: YtfmlgleeojblkaaTotals.lean).
  GIVEN WITH THE SEED: the statements are not yours to turn. If you find one false, say at which input.
  Laid BY PROGRAM, IN A SANDBOX (cutbox-rows.mjs): the forced cells as the released guide's own fill.sh prints them over the translation 913f7e2eecf019f3… (all of the seat's roots in one cut). By AI agents, Wed Nov 11 2026. No macro, syntax, notation, axiom, sorry.
-/
import Derived.Test.YtfmlgleeojblkaaChecked
import GoSem.Claim
import GoSem.ClaimJoined
import GoSem.ClaimMapViews
import Derived.JoinedTies
import Derived.KernelRfl
namespace Go.Proofs.Ytfmlgleeojblkaa
/- THE CELL 'sum', in the pinned program and in every row, IS THE sha256 OF THE DUMP (.gsa) THAT YtfmlgleeojblkaaProg.lean LOADS. Nothing in Lean hashes anything: it is a label: what it is worth is what the hold of that sum in a sandbox is worth. -/
noncomputable def Try.pinned : Pinned := { name := "ytfmlgleeojblkaa", sum := "913f7e2eecf019f3ffe504fa5fe756b6316c9a84f62b85820ba2bf4c1fcb0ea0", checked := Try.checked }
namespace Rows
def none {H : Type} : Left H := { results := [], args := [] }

/-- 'cofferlaw14.ExtentPieces': WHATEVER THE INPUT: true; the input reads as it did. -/
def extentPiecesSpec : ChangeSpec := { name := "extentPieces", fn := fun _ => fun
  | [d1, d2, d3, d4] => { results := [.lit (.bool true)], args := [d1, d2, d3, d4] }
  | _ => none }
def extentPiecesRow : OpenClaim := { program := "ytfmlgleeojblkaa", sum := "913f7e2eecf019f3ffe504fa5fe756b6316c9a84f62b85820ba2bf4c1fcb0ea0", func := "coffer/cofferlaw14.ExtentPieces", spec := "extentPieces", unfollowed := true, recurses := true, apart := false }
def ExtentPiecesSaid : Prop := extentPiecesRow.holds Try.pinned (OpenSpec.ofChange extentPiecesSpec)

/-- ITS FALSE NEIGHBOUR: 'it returns false'. Refute it at one input. -/
def extentPiecesWrong : ChangeSpec := { name := "extentPieces", fn := fun _ => fun
  | [d1, d2, d3, d4] => { results := [.lit (.bool false)], args := [d1, d2, d3, d4] }
  | _ => none }
def ExtentPiecesWrongFalsely : Prop := extentPiecesRow.holds Try.pinned (OpenSpec.ofChange extentPiecesWrong)

/-- 'cofferlaw14.ExtentCovers': WHATEVER THE INPUT: true; the input reads as it did. -/
def extentCoversSpec : ChangeSpec := { name := "extentCovers", fn := fun _ => fun
  | [d1, d2, d3] => { results := [.lit (.bool true)], args := [d1, d2, d3] }
  | _ => none }
def extentCoversRow : OpenClaim := { program := "ytfmlgleeojblkaa", sum := "913f7e2eecf019f3ffe504fa5fe756b6316c9a84f62b85820ba2bf4c1fcb0ea0", func := "coffer/cofferlaw14.ExtentCovers", spec := "extentCovers", unfollowed := true, recurses := true, apart := false }
def ExtentCoversSaid : Prop := extentCoversRow.holds Try.pinned (OpenSpec.ofChange extentCoversSpec)

/-- ITS FALSE NEIGHBOUR: 'it returns false'. Refute it at one input. -/
def extentCoversWrong : ChangeSpec := { name := "extentCovers", fn := fun _ => fun
  | [d1, d2, d3] => { results := [.lit (.bool false)], args := [d1, d2, d3] }
  | _ => none }
def ExtentCoversWrongFalsely : Prop := extentCoversRow.holds Try.pinned (OpenSpec.ofChange extentCoversWrong)

/-- 'cofferlaw14.ExtentFits': WHATEVER THE INPUT: true; the input reads as it did. -/
def extentFitsSpec : ChangeSpec := { name := "extentFits", fn := fun _ => fun
  | [d1, d2, d3] => { results := [.lit (.bool true)], args := [d1, d2, d3] }
  | _ => none }
def extentFitsRow : OpenClaim := { program := "ytfmlgleeojblkaa", sum := "913f7e2eecf019f3ffe504fa5fe756b6316c9a84f62b85820ba2bf4c1fcb0ea0", func := "coffer/cofferlaw14.ExtentFits", spec := "extentFits", unfollowed := true, recurses := true, apart := false }
def ExtentFitsSaid : Prop := extentFitsRow.holds Try.pinned (OpenSpec.ofChange extentFitsSpec)

/-- ITS FALSE NEIGHBOUR: 'it returns false'. Refute it at one input. -/
def extentFitsWrong : ChangeSpec := { name := "extentFits", fn := fun _ => fun
  | [d1, d2, d3] => { results := [.lit (.bool false)], args := [d1, d2, d3] }
  | _ => none }
def ExtentFitsWrongFalsely : Prop := extentFitsRow.holds Try.pinned (OpenSpec.ofChange extentFitsWrong)

/-- 'cofferlaw14.ExtentTells': WHATEVER THE INPUT: true; the input reads as it did. -/
def extentTellsSpec : ChangeSpec := { name := "extentTells", fn := fun _ => fun
  | [d1, d2, d3] => { results := [.lit (.bool true)], args := [d1, d2, d3] }
  | _ => none }
def extentTellsRow : OpenClaim := { program := "ytfmlgleeojblkaa", sum := "913f7e2eecf019f3ffe504fa5fe756b6316c9a84f62b85820ba2bf4c1fcb0ea0", func := "coffer/cofferlaw14.ExtentTells", spec := "extentTells", unfollowed := true, recurses := true, apart := false }
def ExtentTellsSaid : Prop := extentTellsRow.holds Try.pinned (OpenSpec.ofChange extentTellsSpec)

/-- ITS FALSE NEIGHBOUR: 'it returns false'. Refute it at one input. -/
def extentTellsWrong : ChangeSpec := { name := "extentTells", fn := fun _ => fun
  | [d1, d2, d3] => { results := [.lit (.bool false)], args := [d1, d2, d3] }
  | _ => none }
def ExtentTellsWrongFalsely : Prop := extentTellsRow.holds Try.pinned (OpenSpec.ofChange extentTellsWrong)

/- THE SECOND FORM. 'bulk': how many values and letters a reading holds, each counted each time it is reached (what is shared counts as often as it is met; a slice's spare places count too). A statement '..UptoSaid' is the law's where the arguments, and the package variables that the reading takes, are together of bulk at most 1048576: NARROWER than '..Said'. Prove '..Said' where nothing that the law and all that it calls make is longer than what came in: it says more and counts as full. Else prove '..UptoSaid'. A law counts once. -/
mutual
def uptoBulk {H : Type} : DataW H → Nat
  | .lit (.string bytes) => bytes.length + 1
  | .lit _ => 1
  | .nil => 1
  | .ptr d => uptoBulk d + 1
  | .slice elems spare => uptoBulkAll elems + uptoBulkAll spare + 1
  | .agg parts => uptoBulkAll parts + 1
  | .iface _ d => uptoBulk d + 1
  | .map entries => uptoBulkEntries entries + 1
  | .held _ => 1
def uptoBulkAll {H : Type} : List (DataW H) → Nat
  | [] => 0
  | d :: r => uptoBulk d + uptoBulkAll r
def uptoBulkEntries {H : Type} : List (Lit × DataW H) → Nat
  | [] => 0
  | x :: r => uptoBulkEntry x + uptoBulkEntries r
def uptoBulkEntry {H : Type} : Lit × DataW H → Nat
  | (.string bytes, d) => bytes.length + uptoBulk d + 1
  | (_, d) => uptoBulk d + 1
 end
def uptoSmall : (H : Type) → List (DataW H) → Bool := fun _ ds => decide (uptoBulkAll ds ≤ 1048576)
def OpenSpec.upto (s : _root_.Go.ChangeSpec) : _root_.Go.OpenSpec := { _root_.Go.OpenSpec.ofChange s with cond := some uptoSmall }

/-- 'cofferlaw14.ExtentPieces', WHERE WHAT IT READS IS OF BULK AT MOST 1048576: true; the input reads as it did. -/
def extentPiecesUptoRow : OpenClaim := { program := "ytfmlgleeojblkaa", sum := "913f7e2eecf019f3ffe504fa5fe756b6316c9a84f62b85820ba2bf4c1fcb0ea0", func := "coffer/cofferlaw14.ExtentPieces", spec := "extentPieces", unfollowed := true, recurses := true, apart := false, narrowed := true }
def ExtentPiecesUptoSaid : Prop := extentPiecesUptoRow.holds Try.pinned (OpenSpec.upto extentPiecesSpec)

/-- 'cofferlaw14.ExtentCovers', WHERE WHAT IT READS IS OF BULK AT MOST 1048576: true; the input reads as it did. -/
def extentCoversUptoRow : OpenClaim := { program := "ytfmlgleeojblkaa", sum := "913f7e2eecf019f3ffe504fa5fe756b6316c9a84f62b85820ba2bf4c1fcb0ea0", func := "coffer/cofferlaw14.ExtentCovers", spec := "extentCovers", unfollowed := true, recurses := true, apart := false, narrowed := true }
def ExtentCoversUptoSaid : Prop := extentCoversUptoRow.holds Try.pinned (OpenSpec.upto extentCoversSpec)

/-- 'cofferlaw14.ExtentFits', WHERE WHAT IT READS IS OF BULK AT MOST 1048576: true; the input reads as it did. -/
def extentFitsUptoRow : OpenClaim := { program := "ytfmlgleeojblkaa", sum := "913f7e2eecf019f3ffe504fa5fe756b6316c9a84f62b85820ba2bf4c1fcb0ea0", func := "coffer/cofferlaw14.ExtentFits", spec := "extentFits", unfollowed := true, recurses := true, apart := false, narrowed := true }
def ExtentFitsUptoSaid : Prop := extentFitsUptoRow.holds Try.pinned (OpenSpec.upto extentFitsSpec)

/-- 'cofferlaw14.ExtentTells', WHERE WHAT IT READS IS OF BULK AT MOST 1048576: true; the input reads as it did. -/
def extentTellsUptoRow : OpenClaim := { program := "ytfmlgleeojblkaa", sum := "913f7e2eecf019f3ffe504fa5fe756b6316c9a84f62b85820ba2bf4c1fcb0ea0", func := "coffer/cofferlaw14.ExtentTells", spec := "extentTells", unfollowed := true, recurses := true, apart := false, narrowed := true }
def ExtentTellsUptoSaid : Prop := extentTellsUptoRow.holds Try.pinned (OpenSpec.upto extentTellsSpec)

end Rows
end Go.Proofs.Ytfmlgleeojblkaa
