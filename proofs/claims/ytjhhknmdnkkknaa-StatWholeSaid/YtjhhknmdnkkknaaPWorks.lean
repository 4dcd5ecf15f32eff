/- The zero stat, plain. -/
import Derived.Test.YtjhhknmdnkkknaaPStatRead
import Derived.Test.YtjhhknmdnkkknaaPWin
namespace Go.Proofs.Ytjhhknmdnkkknaa
open Go.RowKit

def zb : ByteArray := ⟨#[47, 0, 0, 0, 0, 0, 0, 0, 0, 0, 0, 0, 0, 0, 0, 0, 0, 0, 0, 0, 0, 0, 0, 0, 0, 0, 0, 0, 0, 0, 0, 0, 0, 0, 0, 0, 0, 0, 0, 0, 0, 0, 0, 0, 0, 0, 0, 0, 0]⟩
theorem encS_zero : encS St.zero = (zb, 0) := by kernel_rfl
theorem zero_ok : St.zero.Ok := ⟨by decide, by decide, by decide, by decide, by decide, by decide, by decide, by decide, by decide⟩
theorem decS_zb : decS zb = (St.zero, 0) := by kernel_rfl
theorem decS_zbx : (decS (zb ++ ⟨#[120]⟩)) = (St.zero, 51) := by kernel_rfl
theorem winS_two : winS [St.zero, St.zero] 49 60 = (zb, 0) := by
  rw [winS_ok (by intro s hs; simp at hs; subst hs; rw [encS_zero])]
  kernel_rfl
theorem winS_one : winS [St.zero] 1 60 = (ByteArray.empty, 2) := by
  rw [winS_ok (by intro s hs; simp at hs; subst hs; rw [encS_zero])]
  kernel_rfl
end Go.Proofs.Ytjhhknmdnkkknaa
