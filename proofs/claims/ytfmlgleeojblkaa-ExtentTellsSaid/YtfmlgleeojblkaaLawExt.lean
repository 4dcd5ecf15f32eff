/- An argument that is an extent. -/
import Derived.Test.YtfmlgleeojblkaaLawKit
import Derived.Test.YtfmlgleeojblkaaExtSeq
import Derived.Lib.SmallJoins
namespace Go.Proofs.Ytfmlgleeojblkaa
open Go.ChangeShapes Go.WideShapes Go.ChangeAt Go.RowKit Go.Joins
set_option maxRecDepth 100000 in
theorem arg_ext {H : Type} {enc : TypeId × Value → H} {W : World} {base : Nat} {v : Value} {d : DataW H} {ps : List MemPlace} (hval : Value.okWide Try.prog W .any base 23 v)
    (h : DataW.Trod enc Try.prog W 0 (fun _ => true) true 23 v d ps) : ∃ X c, v = .agg #[.int .i64 X, .int .i64 c] ∧ I64 X ∧ I64 c := by
  obtain ⟨v0, v1, y0, y1, n, rfl, _, _, h0, h1⟩ := Go.Joins.open_agg2 Try.underlying23 (by kernel_rfl) (by kernel_rfl) hval h
  obtain ⟨X, e0, _, w0⟩ := DataW.trod_int Try.underlying3 h0
  obtain ⟨c, e1, _, w1⟩ := DataW.trod_int Try.underlying3 h1
  cases e0
  cases e1
  exact ⟨X, c, rfl, i64_of w0, i64_of w1⟩
end Go.Proofs.Ytfmlgleeojblkaa
