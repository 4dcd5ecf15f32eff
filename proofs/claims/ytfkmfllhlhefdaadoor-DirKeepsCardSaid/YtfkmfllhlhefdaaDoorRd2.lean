/- The contracts of package code's reader, more: numbers, what is left, faults. -/
import Derived.Test.YtfkmfllhlhefdaaDoorRd
import Derived.Defers
namespace Go.Proofs.YtfkmfllhlhefdaaDoor
open Go.RowKit

set_option maxHeartbeats 400000 in
theorem U8_any (b : Nat) (r : Rd) (w : World) (h : w.heap[b]? = some (rdO r)) (hs : r.s.size ≤ maxLen) (hat : r.at_ ≤ r.s.size) :
    Calls Tryd.prog 49 #[.pointer (some ⟨b, 0, none⟩)] w fun e w' => e = .returned (.int .u8 (r.num 1).1) ∧ w'.heap[b]? = some (rdO (r.num 1).2) ∧ Mod (· = b) w w' := by
  go_enter Tryd.func49, Tryd.ntmps49
  go_wp2_with fail
  refine (get_uint8 b r _ h hs hat).mono ?_
  rintro e w1 ⟨rfl, h1, m1⟩
  have H1 := Lib.hid h1; clear h1
  go_wp2
  go_ret
  exact ⟨rfl, H1.out, m1⟩
set_option maxHeartbeats 400000 in
theorem U64_any (b : Nat) (r : Rd) (w : World) (h : w.heap[b]? = some (rdO r)) (hs : r.s.size ≤ maxLen) (hat : r.at_ ≤ r.s.size) :
    Calls Tryd.prog 47 #[.pointer (some ⟨b, 0, none⟩)] w fun e w' => e = .returned (.int .u64 (r.num 8).1) ∧ w'.heap[b]? = some (rdO (r.num 8).2) ∧ Mod (· = b) w w' := by
  go_enter Tryd.func47, Tryd.ntmps47
  go_wp2_with fail
  refine (get_uint64 b r _ h hs hat).mono ?_
  rintro e w1 ⟨rfl, h1, m1⟩
  have H1 := Lib.hid h1; clear h1
  go_wp2
  go_ret
  exact ⟨rfl, H1.out, m1⟩

end Go.Proofs.YtfkmfllhlhefdaaDoor
