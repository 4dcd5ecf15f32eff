/- The contracts of package code's reader, more: numbers, what is left, faults. -/
import Derived.Test.YtjhhknmdnkkknaaRd
import Derived.Defers
namespace Go.Proofs.Ytjhhknmdnkkknaa
open Go.RowKit

set_option maxHeartbeats 400000 in
theorem U8_any (b : Nat) (r : Rd) (w : World) (h : w.heap[b]? = some (rdO r)) (hs : r.s.size ≤ maxLen) (hat : r.at_ ≤ r.s.size) :
    Calls Try.prog 41 #[.pointer (some ⟨b, 0, none⟩)] w fun e w' => e = .returned (.int .u8 (r.num 1).1) ∧ w'.heap[b]? = some (rdO (r.num 1).2) ∧ Mod (· = b) w w' := by
  go_enter Try.func41, Try.ntmps41
  go_wp2_with fail
  refine (get_uint8 b r _ h hs hat).mono ?_
  rintro e w1 ⟨rfl, h1, m1⟩
  have H1 := Lib.hid h1; clear h1
  go_wp2
  go_ret
  exact ⟨rfl, H1.out, m1⟩
set_option maxHeartbeats 400000 in
theorem U16_any (b : Nat) (r : Rd) (w : World) (h : w.heap[b]? = some (rdO r)) (hs : r.s.size ≤ maxLen) (hat : r.at_ ≤ r.s.size) :
    Calls Try.prog 35 #[.pointer (some ⟨b, 0, none⟩)] w fun e w' => e = .returned (.int .u16 (r.num 2).1) ∧ w'.heap[b]? = some (rdO (r.num 2).2) ∧ Mod (· = b) w w' := by
  go_enter Try.func35, Try.ntmps35
  go_wp2_with fail
  refine (get_uint16 b r _ h hs hat).mono ?_
  rintro e w1 ⟨rfl, h1, m1⟩
  have H1 := Lib.hid h1; clear h1
  go_wp2
  go_ret
  exact ⟨rfl, H1.out, m1⟩
set_option maxHeartbeats 400000 in
theorem U32_any (b : Nat) (r : Rd) (w : World) (h : w.heap[b]? = some (rdO r)) (hs : r.s.size ≤ maxLen) (hat : r.at_ ≤ r.s.size) :
    Calls Try.prog 39 #[.pointer (some ⟨b, 0, none⟩)] w fun e w' => e = .returned (.int .u32 (r.num 4).1) ∧ w'.heap[b]? = some (rdO (r.num 4).2) ∧ Mod (· = b) w w' := by
  go_enter Try.func39, Try.ntmps39
  go_wp2_with fail
  refine (get_uint32 b r _ h hs hat).mono ?_
  rintro e w1 ⟨rfl, h1, m1⟩
  have H1 := Lib.hid h1; clear h1
  go_wp2
  go_ret
  exact ⟨rfl, H1.out, m1⟩
set_option maxHeartbeats 400000 in
theorem U64_any (b : Nat) (r : Rd) (w : World) (h : w.heap[b]? = some (rdO r)) (hs : r.s.size ≤ maxLen) (hat : r.at_ ≤ r.s.size) :
    Calls Try.prog 43 #[.pointer (some ⟨b, 0, none⟩)] w fun e w' => e = .returned (.int .u64 (r.num 8).1) ∧ w'.heap[b]? = some (rdO (r.num 8).2) ∧ Mod (· = b) w w' := by
  go_enter Try.func43, Try.ntmps43
  go_wp2_with fail
  refine (get_uint64 b r _ h hs hat).mono ?_
  rintro e w1 ⟨rfl, h1, m1⟩
  have H1 := Lib.hid h1; clear h1
  go_wp2
  go_ret
  exact ⟨rfl, H1.out, m1⟩

set_option maxHeartbeats 400000 in
theorem rest_any (b : Nat) (r : Rd) (w : World) (h : w.heap[b]? = some (rdO r)) (hs : r.s.size ≤ maxLen) (hat : r.at_ ≤ r.s.size) :
    Calls Try.prog 61 #[.pointer (some ⟨b, 0, none⟩)] w fun e w' => e = .returned (.string (r.s.extract r.at_ r.s.size)) ∧ ∃ n, w' = w.drewN n := by
  unfold maxLen at hs
  obtain ⟨s, at_, f⟩ := r
  simp only at hs hat
  have c0 : w.cell? ⟨b, 0, none⟩ = some (.string s) := (cell_of h 0).trans rfl
  have c1 : w.cell? ⟨b, 1, none⟩ = some (.int .i64 at_) := (cell_of h 1).trans rfl
  have c2 : w.cell? ⟨b, 2, none⟩ = some (.int .i64 f) := (cell_of h 2).trans rfl
  have c3 : w.cell? ⟨b, 3, none⟩ = some (.bool true) := (cell_of h 3).trans rfl
  have f1 : w.frozen? ⟨b, 1, none⟩ = false := free_of h 1
  have f2 : w.frozen? ⟨b, 2, none⟩ = false := free_of h 2
  have H := Lib.hid h; clear h
  go_enter Try.func61, Try.ntmps61
  go_wp2
  go_quiet (fail)
  go_wp2
  go_ret
  exact ⟨rfl, _, rfl⟩

set_option maxHeartbeats 400000 in
theorem at_any (b : Nat) (r : Rd) (w : World) (h : w.heap[b]? = some (rdO r)) :
    Calls Try.prog 47 #[.pointer (some ⟨b, 0, none⟩)] w fun e w' => e = .returned (.int .i64 r.at_) ∧ w = w' := by
  obtain ⟨s, at_, f⟩ := r
  have c0 : w.cell? ⟨b, 0, none⟩ = some (.string s) := (cell_of h 0).trans rfl
  have c1 : w.cell? ⟨b, 1, none⟩ = some (.int .i64 at_) := (cell_of h 1).trans rfl
  have c2 : w.cell? ⟨b, 2, none⟩ = some (.int .i64 f) := (cell_of h 2).trans rfl
  have c3 : w.cell? ⟨b, 3, none⟩ = some (.bool true) := (cell_of h 3).trans rfl
  have f1 : w.frozen? ⟨b, 1, none⟩ = false := free_of h 1
  have f2 : w.frozen? ⟨b, 2, none⟩ = false := free_of h 2
  have H := Lib.hid h; clear h
  go_enter Try.func47, Try.ntmps47
  go_wp2
  go_ret
  exact ⟨rfl, rfl⟩

set_option maxHeartbeats 400000 in
theorem fault_any (b : Nat) (r : Rd) (w : World) (h : w.heap[b]? = some (rdO r)) :
    Calls Try.prog 36 #[.pointer (some ⟨b, 0, none⟩)] w fun e w' => e = .returned (.int .i64 r.f) ∧ w = w' := by
  obtain ⟨s, at_, f⟩ := r
  have c0 : w.cell? ⟨b, 0, none⟩ = some (.string s) := (cell_of h 0).trans rfl
  have c1 : w.cell? ⟨b, 1, none⟩ = some (.int .i64 at_) := (cell_of h 1).trans rfl
  have c2 : w.cell? ⟨b, 2, none⟩ = some (.int .i64 f) := (cell_of h 2).trans rfl
  have c3 : w.cell? ⟨b, 3, none⟩ = some (.bool true) := (cell_of h 3).trans rfl
  have f1 : w.frozen? ⟨b, 1, none⟩ = false := free_of h 1
  have f2 : w.frozen? ⟨b, 2, none⟩ = false := free_of h 2
  have H := Lib.hid h; clear h
  go_enter Try.func36, Try.ntmps36
  go_wp2
  go_ret
  exact ⟨rfl, rfl⟩

set_option maxHeartbeats 400000 in
theorem end_any (b : Nat) (r : Rd) (w : World) (h : w.heap[b]? = some (rdO r)) (hs : r.s.size ≤ maxLen) (hat : r.at_ ≤ r.s.size) :
    Calls Try.prog 46 #[.pointer (some ⟨b, 0, none⟩)] w fun e w' => e = .returned (.int .i64 r.end_) ∧ ∃ n, w' = w.drewN n := by
  have hE : Hid (r.end_ = if r.f ≠ 0 then r.f else if r.at_ < r.s.size then 51 else 0) := rfl
  by_cases h1 : r.f = 0
  · have g1 : (r.f != 0) = false := by simp [h1]
    have H1 := Lib.hid h1; clear h1
    by_cases h2 : r.at_ < r.s.size
    all_goals
      have g2 := extract_isEmpty r.s r.at_ hat
      first | rw [decide_eq_false (by omega)] at g2 | rw [decide_eq_true (by omega)] at g2
      go_enter Try.func46, Try.ntmps46
      go_wp2_with fail
      refine (fault_any b r _ h).mono ?_
      rintro e w1 ⟨rfl, rfl⟩
      go_wp2_with fail
      refine (rest_any b r _ h hs hat).mono ?_
      rintro e w1 ⟨rfl, n, rfl⟩
      go_wp2
      go_ret
      exact ⟨ret_int (by rw [hE.out, if_neg (fun x => x H1.out)]; first | rw [if_pos h2] | rw [if_neg h2]), n, rfl⟩
  · have g1 : (r.f != 0) = true := by simpa using h1
    go_enter Try.func46, Try.ntmps46
    go_wp2_with fail
    refine (fault_any b r _ h).mono ?_
    rintro e w1 ⟨rfl, rfl⟩
    go_wp2
    go_ret
    exact ⟨ret_int (by rw [hE.out, if_pos h1]), 0, rfl⟩

set_option maxHeartbeats 400000 in
theorem keep_deferred (b a0 : Nat) (r : Rd) (u : FrameMode) (w : World) (h : w.heap[b]? = some (rdO r)) :
    CallsD Try.prog 60 #[.pointer (some ⟨b, 0, none⟩), .int .i64 a0] u w fun e u' w' => u' = u ∧ (e = .returned (.tuple #[]) ∧ w'.heap[b]? = some (rdO (r.keep a0)) ∧ Mod (· = b) w w') := by
  obtain ⟨s, at_, f⟩ := r
  have hk : Hid (Rd.keep ⟨s, at_, f⟩ a0 = if f ≠ 0 then ⟨s, a0, f⟩ else ⟨s, at_, f⟩) := rfl
  by_cases h1 : f = 0
  · have g1 : (f != 0) = false := by simp [h1]
    have H1 := Lib.hid h1; clear h1
    have c0 : w.cell? ⟨b, 0, none⟩ = some (.string s) := (cell_of h 0).trans rfl
    have c1 : w.cell? ⟨b, 1, none⟩ = some (.int .i64 at_) := (cell_of h 1).trans rfl
    have c2 : w.cell? ⟨b, 2, none⟩ = some (.int .i64 f) := (cell_of h 2).trans rfl
    have c3 : w.cell? ⟨b, 3, none⟩ = some (.bool true) := (cell_of h 3).trans rfl
    have f1 : w.frozen? ⟨b, 1, none⟩ = false := free_of h 1
    have f2 : w.frozen? ⟨b, 2, none⟩ = false := free_of h 2
    have H := Lib.hid h; clear h
    go_enter_d Try.func60, Try.ntmps60
    go_wp2
    go_end0
    exact ⟨rfl, by rw [hk.out, if_neg (fun x => x H1.out)]; exact H.out, Mod.refl _ _⟩
  · have g1 : (f != 0) = true := by simpa using h1
    have c0 : w.cell? ⟨b, 0, none⟩ = some (.string s) := (cell_of h 0).trans rfl
    have c1 : w.cell? ⟨b, 1, none⟩ = some (.int .i64 at_) := (cell_of h 1).trans rfl
    have c2 : w.cell? ⟨b, 2, none⟩ = some (.int .i64 f) := (cell_of h 2).trans rfl
    have c3 : w.cell? ⟨b, 3, none⟩ = some (.bool true) := (cell_of h 3).trans rfl
    have f1 : w.frozen? ⟨b, 1, none⟩ = false := free_of h 1
    have f2 : w.frozen? ⟨b, 2, none⟩ = false := free_of h 2
    have H := Lib.hid h; clear h
    go_enter_d Try.func60, Try.ntmps60
    go_wp2
    go_end0
    exact ⟨rfl, by rw [hk.out, if_pos h1]; exact heap_set (H.out : w.heap[b]? = _) 1 _, Mod.set1 _ _ _ _⟩

set_option maxHeartbeats 400000 in
theorem text_any (b : Nat) (r : Rd) (w : World) (h : w.heap[b]? = some (rdO r)) (hs : r.s.size ≤ maxLen) (hat : r.at_ ≤ r.s.size) :
    Calls Try.prog 45 #[.pointer (some ⟨b, 0, none⟩)] w fun e w' => e = .returned (.string r.text.1) ∧ w'.heap[b]? = some (rdO r.text.2) ∧ Mod (· = b) w w' := by
  obtain ⟨s, at_, f⟩ := r
  simp only at hs hat
  have h0 := Lib.hid h
  have hnl : (Rd.num ⟨s, at_, f⟩ 2).1 < 65536 := Rd.num_lt _ 2
  have c0 : w.cell? ⟨b, 0, none⟩ = some (.string s) := (cell_of h 0).trans rfl
  have c1 : w.cell? ⟨b, 1, none⟩ = some (.int .i64 at_) := (cell_of h 1).trans rfl
  have c2 : w.cell? ⟨b, 2, none⟩ = some (.int .i64 f) := (cell_of h 2).trans rfl
  have c3 : w.cell? ⟨b, 3, none⟩ = some (.bool true) := (cell_of h 3).trans rfl
  have f1 : w.frozen? ⟨b, 1, none⟩ = false := free_of h 1
  have f2 : w.frozen? ⟨b, 2, none⟩ = false := free_of h 2
  have H := Lib.hid h; clear h
  go_enter_defers Try.func45, Try.ntmps45
  go_wp2_with fail
  refine (U16_any b _ _ h0.out hs hat).mono ?_
  rintro e w1 ⟨rfl, h1, m1⟩
  have H1 := Lib.hid h1; clear h1
  go_wp2_with fail
  refine (bytes_any b _ _ _ H1.out (by rw [Rd.num_s]; exact hs) (Rd.num_at _ _ hat)).mono ?_
  rintro e w2 ⟨rfl, h2, m2⟩
  have H2 := Lib.hid h2; clear h2
  go_wp2
  refine leaves_cons (f := 60) (args := #[.pointer (some ⟨b, 0, none⟩), .int .i64 at_]) (by simp) (by simp [go_sem]) ?_
  refine (keep_deferred b at_ _ .returning _ H2.out).mono ?_
  rintro e u' w3 ⟨rfl, rfl, h3, m3⟩
  exact ⟨_, results_tmp rfl _ _ _, rfl, h3, (m1.trans m2).trans m3⟩
end Go.Proofs.Ytjhhknmdnkkknaa
