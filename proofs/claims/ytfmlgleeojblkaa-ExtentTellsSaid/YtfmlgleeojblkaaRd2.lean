/- The contracts of package code's reader, more: numbers, what is left, faults. -/
import Derived.Test.YtfmlgleeojblkaaRd
import Derived.Defers
namespace Go.Proofs.Ytfmlgleeojblkaa
open Go.RowKit

set_option maxHeartbeats 400000 in
theorem U8_any (b : Nat) (r : Rd) (w : World) (h : w.heap[b]? = some (rdO r)) (hs : r.s.size ≤ maxLen) (hat : r.at_ ≤ r.s.size) :
    Calls Try.prog 44 #[.pointer (some ⟨b, 0, none⟩)] w fun e w' => e = .returned (.int .u8 (r.num 1).1) ∧ w'.heap[b]? = some (rdO (r.num 1).2) ∧ Mod (· = b) w w' := by
  go_enter Try.func44, Try.ntmps44
  go_wp2_with fail
  refine (get_uint8 b r _ h hs hat).mono ?_
  rintro e w1 ⟨rfl, h1, m1⟩
  have H1 := Lib.hid h1; clear h1
  go_wp2
  go_ret
  exact ⟨rfl, H1.out, m1⟩
set_option maxHeartbeats 400000 in
theorem U32_any (b : Nat) (r : Rd) (w : World) (h : w.heap[b]? = some (rdO r)) (hs : r.s.size ≤ maxLen) (hat : r.at_ ≤ r.s.size) :
    Calls Try.prog 45 #[.pointer (some ⟨b, 0, none⟩)] w fun e w' => e = .returned (.int .u32 (r.num 4).1) ∧ w'.heap[b]? = some (rdO (r.num 4).2) ∧ Mod (· = b) w w' := by
  go_enter Try.func45, Try.ntmps45
  go_wp2_with fail
  refine (get_uint32 b r _ h hs hat).mono ?_
  rintro e w1 ⟨rfl, h1, m1⟩
  have H1 := Lib.hid h1; clear h1
  go_wp2
  go_ret
  exact ⟨rfl, H1.out, m1⟩
set_option maxHeartbeats 400000 in
theorem rest_any (b : Nat) (r : Rd) (w : World) (h : w.heap[b]? = some (rdO r)) (hs : r.s.size ≤ maxLen) (hat : r.at_ ≤ r.s.size) :
    Calls Try.prog 62 #[.pointer (some ⟨b, 0, none⟩)] w fun e w' => e = .returned (.string (r.s.extract r.at_ r.s.size)) ∧ ∃ n, w' = w.drewN n := by
  unfold maxLen at hs
  obtain ⟨s, at_, f⟩ := r
  simp only at hs hat
  have c0 : w.cell? ⟨b, 0, none⟩ = some (.string s) := (cell_of h 0).trans rfl
  have c1 : w.cell? ⟨b, 1, none⟩ = some (.int .i64 at_) := (cell_of h 1).trans rfl
  have c2 : w.cell? ⟨b, 2, none⟩ = some (.int .i64 f) := (cell_of h 2).trans rfl
  have c3 : w.cell? ⟨b, 3, none⟩ = some (.bool true) := (cell_of h 3).trans rfl
  have f1 : w.frozen? ⟨b, 1, none⟩ = false := free_of h 1
  have f2 : w.frozen? ⟨b, 2, none⟩ = false := free_of h 2
  have H := Lib.hid h; clear h
  go_enter Try.func62, Try.ntmps62
  go_wp2
  go_quiet (fail)
  go_wp2
  go_ret
  exact ⟨rfl, _, rfl⟩

set_option maxHeartbeats 400000 in
theorem fault_any (b : Nat) (r : Rd) (w : World) (h : w.heap[b]? = some (rdO r)) :
    Calls Try.prog 46 #[.pointer (some ⟨b, 0, none⟩)] w fun e w' => e = .returned (.int .i64 r.f) ∧ w = w' := by
  obtain ⟨s, at_, f⟩ := r
  have c0 : w.cell? ⟨b, 0, none⟩ = some (.string s) := (cell_of h 0).trans rfl
  have c1 : w.cell? ⟨b, 1, none⟩ = some (.int .i64 at_) := (cell_of h 1).trans rfl
  have c2 : w.cell? ⟨b, 2, none⟩ = some (.int .i64 f) := (cell_of h 2).trans rfl
  have c3 : w.cell? ⟨b, 3, none⟩ = some (.bool true) := (cell_of h 3).trans rfl
  have f1 : w.frozen? ⟨b, 1, none⟩ = false := free_of h 1
  have f2 : w.frozen? ⟨b, 2, none⟩ = false := free_of h 2
  have H := Lib.hid h; clear h
  go_enter Try.func46, Try.ntmps46
  go_wp2
  go_ret
  exact ⟨rfl, rfl⟩

set_option maxHeartbeats 400000 in
theorem end_any (b : Nat) (r : Rd) (w : World) (h : w.heap[b]? = some (rdO r)) (hs : r.s.size ≤ maxLen) (hat : r.at_ ≤ r.s.size) :
    Calls Try.prog 47 #[.pointer (some ⟨b, 0, none⟩)] w fun e w' => e = .returned (.int .i64 r.end_) ∧ ∃ n, w' = w.drewN n := by
  have hE : Hid (r.end_ = if r.f ≠ 0 then r.f else if r.at_ < r.s.size then 51 else 0) := rfl
  by_cases h1 : r.f = 0
  · have g1 : (r.f != 0) = false := by simp [h1]
    have H1 := Lib.hid h1; clear h1
    by_cases h2 : r.at_ < r.s.size
    all_goals
      have g2 := extract_isEmpty r.s r.at_ hat
      first | rw [decide_eq_false (by omega)] at g2 | rw [decide_eq_true (by omega)] at g2
      go_enter Try.func47, Try.ntmps47
      go_wp2_with fail
      refine (fault_any b r _ h).mono ?_
      rintro e w1 ⟨rfl, rfl⟩
      go_wp2_with fail
      refine (rest_any b r _ h hs hat).mono ?_
      rintro e w1 ⟨rfl, n, rfl⟩
      go_wp2
      go_ret
      exact ⟨ret_int (by rw [hE.out, if_neg (fun x => x H1.out)]; first | rw [if_pos h2] | rw [if_neg h2]), n, rfl⟩
  · have g1 : (r.f != 0) = true := by simpa using h1
    go_enter Try.func47, Try.ntmps47
    go_wp2_with fail
    refine (fault_any b r _ h).mono ?_
    rintro e w1 ⟨rfl, rfl⟩
    go_wp2
    go_ret
    exact ⟨ret_int (by rw [hE.out, if_pos h1]), 0, rfl⟩

end Go.Proofs.Ytfmlgleeojblkaa
