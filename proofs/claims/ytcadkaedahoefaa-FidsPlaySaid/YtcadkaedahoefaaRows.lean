/-
  No cell of these rows narrows 'for every input' (looked for: loops, veiled, ifaces, maps, wideKeys, modest, calm, conditions, laid).
  DERIVED. THE GIVEN ROWS OF THIS SEAT. 4 by the template 'for every input the law returns true; each argument reads behind the call as it read before'; 0 by the template 'total and deterministic' (their statements: YtcadkaedahoefaaTotals.lean).
  GIVEN WITH THE SEED: the statements are not yours to turn. If you find one false, say at which input.
  Laid BY PROGRAM, IN A SANDBOX (cutbox-rows.mjs): the forced cells as the released guide's own fill.sh prints them over the translation be012dbb5ee19492… (all of the seat's roots in one cut). By AI agents, Wed Nov 11 2026. No macro, syntax, notation, axiom, sorry.
-/
import Derived.Test.YtcadkaedahoefaaChecked
import GoSem.Claim
import GoSem.ClaimJoined
import GoSem.ClaimMapViews
import Derived.JoinedTies
import Derived.KernelRfl
namespace Go.Proofs.Ytcadkaedahoefaa
/- THE CELL 'sum', in the pinned program and in every row, IS THE sha256 OF THE DUMP (.gsa) THAT YtcadkaedahoefaaProg.lean LOADS. Nothing in Lean hashes anything: it is a label: what it is worth is what the hold of that sum in a sandbox is worth. -/
noncomputable def Try.pinned : Pinned := { name := "ytcadkaedahoefaa", sum := "be012dbb5ee1949206e6832e6170a4c2455f082dc76d82e37af59b0ee3bf13d9", checked := Try.checked }
namespace Rows
def none {H : Type} : Left H := { results := [], args := [] }

/-- 'cofferlaw25.TagsOnce': WHATEVER THE INPUT: true; the input reads as it did. -/
def tagsOnceSpec : ChangeSpec := { name := "tagsOnce", fn := fun _ => fun
  | [d1, d2] => { results := [.lit (.bool true)], args := [d1, d2] }
  | _ => none }
def tagsOnceRow : OpenClaim := { program := "ytcadkaedahoefaa", sum := "be012dbb5ee1949206e6832e6170a4c2455f082dc76d82e37af59b0ee3bf13d9", func := "coffer/cofferlaw25.TagsOnce", spec := "tagsOnce", unfollowed := true, recurses := true, apart := false }
def TagsOnceSaid : Prop := tagsOnceRow.holds Try.pinned (OpenSpec.ofChange tagsOnceSpec)

/-- ITS FALSE NEIGHBOUR: 'it returns false'. Refute it at one input. -/
def tagsOnceWrong : ChangeSpec := { name := "tagsOnce", fn := fun _ => fun
  | [d1, d2] => { results := [.lit (.bool false)], args := [d1, d2] }
  | _ => none }
def TagsOnceWrongFalsely : Prop := tagsOnceRow.holds Try.pinned (OpenSpec.ofChange tagsOnceWrong)

/-- 'cofferlaw25.TagsPlay': WHATEVER THE INPUT: true; the input reads as it did. -/
def tagsPlaySpec : ChangeSpec := { name := "tagsPlay", fn := fun _ => fun
  | [d1, d2] => { results := [.lit (.bool true)], args := [d1, d2] }
  | _ => none }
def tagsPlayRow : OpenClaim := { program := "ytcadkaedahoefaa", sum := "be012dbb5ee1949206e6832e6170a4c2455f082dc76d82e37af59b0ee3bf13d9", func := "coffer/cofferlaw25.TagsPlay", spec := "tagsPlay", unfollowed := true, recurses := true, apart := false }
def TagsPlaySaid : Prop := tagsPlayRow.holds Try.pinned (OpenSpec.ofChange tagsPlaySpec)

/-- ITS FALSE NEIGHBOUR: 'it returns false'. Refute it at one input. -/
def tagsPlayWrong : ChangeSpec := { name := "tagsPlay", fn := fun _ => fun
  | [d1, d2] => { results := [.lit (.bool false)], args := [d1, d2] }
  | _ => none }
def TagsPlayWrongFalsely : Prop := tagsPlayRow.holds Try.pinned (OpenSpec.ofChange tagsPlayWrong)

/-- 'cofferlaw25.FidsPlay': WHATEVER THE INPUT: true; the input reads as it did. -/
def fidsPlaySpec : ChangeSpec := { name := "fidsPlay", fn := fun _ => fun
  | [d1, d2] => { results := [.lit (.bool true)], args := [d1, d2] }
  | _ => none }
def fidsPlayRow : OpenClaim := { program := "ytcadkaedahoefaa", sum := "be012dbb5ee1949206e6832e6170a4c2455f082dc76d82e37af59b0ee3bf13d9", func := "coffer/cofferlaw25.FidsPlay", spec := "fidsPlay", unfollowed := true, recurses := true, apart := false }
def FidsPlaySaid : Prop := fidsPlayRow.holds Try.pinned (OpenSpec.ofChange fidsPlaySpec)

/-- ITS FALSE NEIGHBOUR: 'it returns false'. Refute it at one input. -/
def fidsPlayWrong : ChangeSpec := { name := "fidsPlay", fn := fun _ => fun
  | [d1, d2] => { results := [.lit (.bool false)], args := [d1, d2] }
  | _ => none }
def FidsPlayWrongFalsely : Prop := fidsPlayRow.holds Try.pinned (OpenSpec.ofChange fidsPlayWrong)

/-- 'cofferlaw25.FidsNone': WHATEVER THE INPUT: true; the input reads as it did. -/
def fidsNoneSpec : ChangeSpec := { name := "fidsNone", fn := fun _ => fun
  | [d1, d2] => { results := [.lit (.bool true)], args := [d1, d2] }
  | _ => none }
def fidsNoneRow : OpenClaim := { program := "ytcadkaedahoefaa", sum := "be012dbb5ee1949206e6832e6170a4c2455f082dc76d82e37af59b0ee3bf13d9", func := "coffer/cofferlaw25.FidsNone", spec := "fidsNone", unfollowed := true, recurses := true, apart := false }
def FidsNoneSaid : Prop := fidsNoneRow.holds Try.pinned (OpenSpec.ofChange fidsNoneSpec)

/-- ITS FALSE NEIGHBOUR: 'it returns false'. Refute it at one input. -/
def fidsNoneWrong : ChangeSpec := { name := "fidsNone", fn := fun _ => fun
  | [d1, d2] => { results := [.lit (.bool false)], args := [d1, d2] }
  | _ => none }
def FidsNoneWrongFalsely : Prop := fidsNoneRow.holds Try.pinned (OpenSpec.ofChange fidsNoneWrong)

/- THE SECOND FORM. 'bulk': how many values and letters a reading holds, each counted each time it is reached (what is shared counts as often as it is met; a slice's spare places count too). A statement '..UptoSaid' is the law's where the arguments, and the package variables that the reading takes, are together of bulk at most 1048576: NARROWER than '..Said'. Prove '..Said' where nothing that the law and all that it calls make is longer than what came in: it says more and counts as full. Else prove '..UptoSaid'. A law counts once. -/
mutual
def uptoBulk {H : Type} : DataW H → Nat
  | .lit (.string bytes) => bytes.length + 1
  | .lit _ => 1
  | .nil => 1
  | .ptr d => uptoBulk d + 1
  | .slice elems spare => uptoBulkAll elems + uptoBulkAll spare + 1
  | .agg parts => uptoBulkAll parts + 1
  | .iface _ d => uptoBulk d + 1
  | .map entries => uptoBulkEntries entries + 1
  | .held _ => 1
def uptoBulkAll {H : Type} : List (DataW H) → Nat
  | [] => 0
  | d :: r => uptoBulk d + uptoBulkAll r
def uptoBulkEntries {H : Type} : List (Lit × DataW H) → Nat
  | [] => 0
  | x :: r => uptoBulkEntry x + uptoBulkEntries r
def uptoBulkEntry {H : Type} : Lit × DataW H → Nat
  | (.string bytes, d) => bytes.length + uptoBulk d + 1
  | (_, d) => uptoBulk d + 1
 end
def uptoSmall : (H : Type) → List (DataW H) → Bool := fun _ ds => decide (uptoBulkAll ds ≤ 1048576)
def OpenSpec.upto (s : _root_.Go.ChangeSpec) : _root_.Go.OpenSpec := { _root_.Go.OpenSpec.ofChange s with cond := some uptoSmall }

/-- 'cofferlaw25.TagsOnce', WHERE WHAT IT READS IS OF BULK AT MOST 1048576: true; the input reads as it did. -/
def tagsOnceUptoRow : OpenClaim := { program := "ytcadkaedahoefaa", sum := "be012dbb5ee1949206e6832e6170a4c2455f082dc76d82e37af59b0ee3bf13d9", func := "coffer/cofferlaw25.TagsOnce", spec := "tagsOnce", unfollowed := true, recurses := true, apart := false, narrowed := true }
def TagsOnceUptoSaid : Prop := tagsOnceUptoRow.holds Try.pinned (OpenSpec.upto tagsOnceSpec)

/-- 'cofferlaw25.TagsPlay', WHERE WHAT IT READS IS OF BULK AT MOST 1048576: true; the input reads as it did. -/
def tagsPlayUptoRow : OpenClaim := { program := "ytcadkaedahoefaa", sum := "be012dbb5ee1949206e6832e6170a4c2455f082dc76d82e37af59b0ee3bf13d9", func := "coffer/cofferlaw25.TagsPlay", spec := "tagsPlay", unfollowed := true, recurses := true, apart := false, narrowed := true }
def TagsPlayUptoSaid : Prop := tagsPlayUptoRow.holds Try.pinned (OpenSpec.upto tagsPlaySpec)

/-- 'cofferlaw25.FidsPlay', WHERE WHAT IT READS IS OF BULK AT MOST 1048576: true; the input reads as it did. -/
def fidsPlayUptoRow : OpenClaim := { program := "ytcadkaedahoefaa", sum := "be012dbb5ee1949206e6832e6170a4c2455f082dc76d82e37af59b0ee3bf13d9", func := "coffer/cofferlaw25.FidsPlay", spec := "fidsPlay", unfollowed := true, recurses := true, apart := false, narrowed := true }
def FidsPlayUptoSaid : Prop := fidsPlayUptoRow.holds Try.pinned (OpenSpec.upto fidsPlaySpec)

/-- 'cofferlaw25.FidsNone', WHERE WHAT IT READS IS OF BULK AT MOST 1048576: true; the input reads as it did. -/
def fidsNoneUptoRow : OpenClaim := { program := "ytcadkaedahoefaa", sum := "be012dbb5ee1949206e6832e6170a4c2455f082dc76d82e37af59b0ee3bf13d9", func := "coffer/cofferlaw25.FidsNone", spec := "fidsNone", unfollowed := true, recurses := true, apart := false, narrowed := true }
def FidsNoneUptoSaid : Prop := fidsNoneUptoRow.holds Try.pinned (OpenSpec.upto fidsNoneSpec)

end Rows
end Go.Proofs.Ytcadkaedahoefaa
