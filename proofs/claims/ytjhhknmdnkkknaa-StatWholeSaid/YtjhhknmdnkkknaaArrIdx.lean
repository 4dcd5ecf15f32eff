/- An array of texts that is a value, at a place. -/
import Derived.Test.YtjhhknmdnkkknaaBase
namespace Go.Proofs.Ytjhhknmdnkkknaa
open Go.RowKit
theorem idx7 (a0 a1 a2 a3 a4 a5 a6 : ByteArray) (k : Nat) (hk : k < 7) (w : World) :
    (Instr.index 57 (.agg #[.string a0, .string a1, .string a2, .string a3, .string a4, .string a5, .string a6]) (.int .i64 k)).run Try.prog w = .ok ([Value.string a0, .string a1, .string a2, .string a3, .string a4, .string a5, .string a6].getD k undef) w := by
  have h := run_underlying (P := Try.prog) Try.underlying57
  have h9 := Try.sizeOf9
  rcases (show k = 0 ∨ k = 1 ∨ k = 2 ∨ k = 3 ∨ k = 4 ∨ k = 5 ∨ k = 6 from by omega) with rfl | rfl | rfl | rfl | rfl | rfl | rfl
  all_goals simp [Instr.index, go_sem, h]
theorem idx4 (a0 a1 a2 a3 : ByteArray) (k : Nat) (hk : k < 4) (w : World) :
    (Instr.index 62 (.agg #[.string a0, .string a1, .string a2, .string a3]) (.int .i64 k)).run Try.prog w = .ok ([Value.string a0, .string a1, .string a2, .string a3].getD k undef) w := by
  have h := run_underlying (P := Try.prog) Try.underlying62
  have h9 := Try.sizeOf9
  rcases (show k = 0 ∨ k = 1 ∨ k = 2 ∨ k = 3 from by omega) with rfl | rfl | rfl | rfl
  all_goals simp [Instr.index, go_sem, h]
theorem idx4p (a0 a1 a2 a3 : Option Addr) (k : Nat) (hk : k < 4) (w : World) :
    (Instr.index 87 (.agg #[.pointer a0, .pointer a1, .pointer a2, .pointer a3]) (.int .i64 k)).run Try.prog w = .ok ([Value.pointer a0, .pointer a1, .pointer a2, .pointer a3].getD k undef) w := by
  have h := run_underlying (P := Try.prog) Try.underlying87
  have h9 := Try.sizeOf86
  rcases (show k = 0 ∨ k = 1 ∨ k = 2 ∨ k = 3 from by omega) with rfl | rfl | rfl | rfl
  all_goals simp [Instr.index, go_sem, h]
end Go.Proofs.Ytjhhknmdnkkknaa
