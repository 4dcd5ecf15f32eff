/- Arguments of types []int and []bool. -/
import Derived.Test.YtaoldidkbfhlpaaLawKit
namespace Go.Proofs.Ytaoldidkbfhlpaa
open Go.ChangeShapes Go.WideShapes Go.ChangeAt Go.RowKit

theorem arg_ints {H : Type} {enc : TypeId × Value → H} {W : World} {base : Nat} {v : Value} {d : DataW H} {ps : List MemPlace} (hval : Value.okWide Try.prog W .any base 22 v)
    (h : DataW.Trod enc Try.prog W 0 (fun _ => true) true 22 v d ps) : ∃ (a : Option Addr) (len cap : Nat) (C : Nat → Int), v = .slice a len cap ∧ len ≤ maxLen ∧
      ∀ i, i < len → ∃ g off, a = some ⟨g, off, none⟩ ∧ g < W.heap.size ∧ W.cell? ⟨g, off + i, none⟩ = some (.int .i64 (C i)) := by
  obtain ⟨a, len, cap, row, rfl, hl, hr⟩ := arg_slice Try.underlying22 (by kernel_rfl : Try.prog.cellsOf 3 = 1) (by decide) hval h
  refine ⟨a, len, cap, fun i => match row i with | [.int .i64 c] => c | _ => 0, rfl, hl, fun i hi => ?_⟩
  obtain ⟨h1, ⟨g, off, ha, hg, hc⟩, n, y, hy⟩ := hr i hi
  refine ⟨g, off, ha, hg, ?_⟩
  have h2 := hc 0 (by decide)
  obtain ⟨c, e, _⟩ := DataW.trod_int Try.underlying3 hy
  rw [Nat.mul_one, Nat.add_zero] at h2
  rw [h2]
  simp only [e]
  rfl
theorem arg_bools {H : Type} {enc : TypeId × Value → H} {W : World} {base : Nat} {v : Value} {d : DataW H} {ps : List MemPlace} (hval : Value.okWide Try.prog W .any base 23 v)
    (h : DataW.Trod enc Try.prog W 0 (fun _ => true) true 23 v d ps) : ∃ (a : Option Addr) (len cap : Nat) (C : Nat → Bool), v = .slice a len cap ∧ len ≤ maxLen ∧
      ∀ i, i < len → ∃ g off, a = some ⟨g, off, none⟩ ∧ g < W.heap.size ∧ W.cell? ⟨g, off + i, none⟩ = some (.bool (C i)) := by
  obtain ⟨a, len, cap, row, rfl, hl, hr⟩ := arg_slice Try.underlying23 (by kernel_rfl : Try.prog.cellsOf 4 = 1) (by decide) hval h
  refine ⟨a, len, cap, fun i => match row i with | [.bool c] => c | _ => false, rfl, hl, fun i hi => ?_⟩
  obtain ⟨h1, ⟨g, off, ha, hg, hc⟩, n, y, hy⟩ := hr i hi
  refine ⟨g, off, ha, hg, ?_⟩
  have h2 := hc 0 (by decide)
  obtain ⟨c, e, _⟩ := DataW.trod_bool Try.underlying4 hy
  rw [Nat.mul_one, Nat.add_zero] at h2
  rw [h2]
  simp only [e]
  rfl
end Go.Proofs.Ytaoldidkbfhlpaa
