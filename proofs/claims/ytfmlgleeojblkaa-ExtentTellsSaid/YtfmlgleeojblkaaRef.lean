/- The contracts of the document's reader (cofferref05). -/
import Derived.Test.YtfmlgleeojblkaaOwn
import Derived.Test.YtfmlgleeojblkaaPCode
import Derived.Test.YtfmlgleeojblkaaRd
namespace Go.Proofs.Ytfmlgleeojblkaa
open Go.RowKit

/-- the document's reader in memory -/
def rrObj (s : ByteArray) (at_ : Nat) (f : Int) : Obj := .cells #[.string s, .int .i64 at_, .int .i64 f] 93 (0, 0)
def rrO (r : Rd) : Obj := rrObj r.s r.at_ r.f

set_option maxHeartbeats 400000 in
theorem rbytes_fault (b : Nat) (s : ByteArray) (at_ : Nat) (f n : Int) (w : World) (h : w.heap[b]? = some (rrObj s at_ f)) (hf : (f != 0) = true) :
    Calls Try.prog 63 #[.pointer (some ⟨b, 0, none⟩), .int .i64 n] w fun e w' => e = .returned (.string ByteArray.empty) ∧ w = w' := by
  have c0 : w.cell? ⟨b, 0, none⟩ = some (.string s) := (cell_of h 0).trans rfl
  have c1 : w.cell? ⟨b, 1, none⟩ = some (.int .i64 at_) := (cell_of h 1).trans rfl
  have c2 : w.cell? ⟨b, 2, none⟩ = some (.int .i64 f) := (cell_of h 2).trans rfl
  have f1 : w.frozen? ⟨b, 1, none⟩ = false := free_of h 1
  have f2 : w.frozen? ⟨b, 2, none⟩ = false := free_of h 2
  have H := Lib.hid h; clear h
  go_enter Try.func63, Try.ntmps63
  go_wp2
  go_ret
  exact ⟨rfl, rfl⟩

set_option maxHeartbeats 400000 in
theorem rbytes_neg (b : Nat) (s : ByteArray) (at_ : Nat) (n : Int) (w : World) (h : w.heap[b]? = some (rrObj s at_ 0)) (hn : n < 0) :
    Calls Try.prog 63 #[.pointer (some ⟨b, 0, none⟩), .int .i64 n] w fun e w' => e = .returned (.string ByteArray.empty) ∧ w'.heap[b]? = some (rrObj s at_ 2) ∧ Mod (· = b) w w' := by
  have c0 : w.cell? ⟨b, 0, none⟩ = some (.string s) := (cell_of h 0).trans rfl
  have c1 : w.cell? ⟨b, 1, none⟩ = some (.int .i64 at_) := (cell_of h 1).trans rfl
  have c2 : w.cell? ⟨b, 2, none⟩ = some (.int .i64 0) := (cell_of h 2).trans rfl
  have f1 : w.frozen? ⟨b, 1, none⟩ = false := free_of h 1
  have f2 : w.frozen? ⟨b, 2, none⟩ = false := free_of h 2
  have H := Lib.hid h; clear h
  go_enter Try.func63, Try.ntmps63
  go_wp2
  go_ret
  exact ⟨rfl, heap_set H.out 2 _, Mod.set1 _ _ _ _⟩

set_option maxHeartbeats 400000 in
theorem rbytes_short (b : Nat) (s : ByteArray) (at_ n : Nat) (w : World) (h : w.heap[b]? = some (rrObj s at_ 0)) (hs : s.size ≤ maxLen) (hat : at_ ≤ s.size) (hn : (s.size : Int) - at_ < n) :
    Calls Try.prog 63 #[.pointer (some ⟨b, 0, none⟩), .int .i64 n] w fun e w' => e = .returned (.string ByteArray.empty) ∧ w'.heap[b]? = some (rrObj s at_ 50) ∧ Mod (· = b) w w' := by
  unfold maxLen at hs
  have c0 : w.cell? ⟨b, 0, none⟩ = some (.string s) := (cell_of h 0).trans rfl
  have c1 : w.cell? ⟨b, 1, none⟩ = some (.int .i64 at_) := (cell_of h 1).trans rfl
  have c2 : w.cell? ⟨b, 2, none⟩ = some (.int .i64 0) := (cell_of h 2).trans rfl
  have f1 : w.frozen? ⟨b, 1, none⟩ = false := free_of h 1
  have f2 : w.frozen? ⟨b, 2, none⟩ = false := free_of h 2
  have H := Lib.hid h; clear h
  go_enter Try.func63, Try.ntmps63
  go_wp2
  go_quiet (fail)
  go_wp2
  go_ret
  exact ⟨rfl, heap_set (H.out : w.heap[b]? = _) 2 _, (Mod.set1 _ _ _ _).drewN _⟩

set_option maxHeartbeats 400000 in
theorem rbytes_ok (b : Nat) (s : ByteArray) (at_ n : Nat) (w : World) (h : w.heap[b]? = some (rrObj s at_ 0)) (hs : s.size ≤ maxLen) (hn : at_ + n ≤ s.size) :
    Calls Try.prog 63 #[.pointer (some ⟨b, 0, none⟩), .int .i64 n] w fun e w' => e = .returned (.string (s.extract at_ (at_ + n))) ∧ w'.heap[b]? = some (rrObj s (at_ + n) 0) ∧ Mod (· = b) w w' := by
  unfold maxLen at hs
  have c0 : w.cell? ⟨b, 0, none⟩ = some (.string s) := (cell_of h 0).trans rfl
  have c1 : w.cell? ⟨b, 1, none⟩ = some (.int .i64 at_) := (cell_of h 1).trans rfl
  have c2 : w.cell? ⟨b, 2, none⟩ = some (.int .i64 0) := (cell_of h 2).trans rfl
  have f1 : w.frozen? ⟨b, 1, none⟩ = false := free_of h 1
  have f2 : w.frozen? ⟨b, 2, none⟩ = false := free_of h 2
  have H := Lib.hid h; clear h
  go_enter Try.func63, Try.ntmps63
  go_wp2
  go_quiet (fail)
  go_wp2
  go_quiet (fail)
  go_wp2
  go_ret
  exact ⟨rfl, heap_set (H.out : w.heap[b]? = _) 1 _, ((Mod.refl (· = b) w).drewN _).setCell (p := ⟨b, 1, none⟩) (Or.inl rfl) _⟩

/-- any call of Bytes -/
theorem rbytes_any (b : Nat) (r : Rd) (n : Int) (w : World) (h : w.heap[b]? = some (rrO r)) (hs : r.s.size ≤ maxLen) (hat : r.at_ ≤ r.s.size) :
    Calls Try.prog 63 #[.pointer (some ⟨b, 0, none⟩), .int .i64 n] w fun e w' => e = .returned (.string (r.bytes n).1) ∧ w'.heap[b]? = some (rrO (r.bytes n).2) ∧ Mod (· = b) w w' := by
  unfold Rd.bytes
  by_cases h1 : r.f = 0
  · rw [if_neg (by omega)]
    obtain ⟨s, at_, f⟩ := r
    obtain rfl : f = 0 := h1
    by_cases h2 : n < 0
    · rw [if_pos h2]
      exact rbytes_neg b s at_ n w h h2
    · rw [if_neg h2]
      obtain ⟨k, rfl⟩ := Int.eq_ofNat_of_zero_le (Int.not_lt.1 h2)
      by_cases h3 : s.size < at_ + k
      · rw [if_pos (by simp only [Int.toNat_natCast]; omega)]
        exact rbytes_short b s at_ k w h hs hat (by omega)
      · rw [if_neg (by simp only [Int.toNat_natCast]; omega)]
        exact rbytes_ok b s at_ k w h hs (by omega)
  · rw [if_pos h1]
    exact (rbytes_fault b r.s r.at_ r.f n w h (by simpa using h1)).mono fun e w' ⟨he, hw⟩ => ⟨he, hw ▸ h, hw ▸ Mod.refl _ _⟩

set_option maxHeartbeats 400000 in
theorem rNum (b : Nat) (r : Rd) (n : Nat) (m : Int) (hm : m = n) (w : World) (h : w.heap[b]? = some (rrO r)) (hs : r.s.size ≤ maxLen) (hat : r.at_ ≤ r.s.size) (hn : n ≤ 8) :
    Calls Try.prog 48 #[.pointer (some ⟨b, 0, none⟩), .int .i64 m] w fun e w' => e = .returned (.int .u64 (r.num n).1) ∧ w'.heap[b]? = some (rrO (r.num n).2) ∧ Mod (· = b) w w' := by
  subst hm
  go_enter Try.func48, Try.ntmps48
  go_wp2_with fail
  refine (rbytes_any b r n _ h hs hat).mono ?_
  rintro e w1 ⟨rfl, h1, m1⟩
  have hsz : (r.bytes (n : Nat)).1.size ≤ n := Rd.bytes_size_le r n
  have HN : Hid ((r.num n).1 = leNat (r.bytes n).1.data.toList ∧ (r.num n).2 = (r.bytes n).2) := ⟨rfl, rfl⟩
  generalize hT : (r.bytes n).1 = t at *
  have H1 := Lib.hid h1; clear h1
  clear hT h
  generalize hY : (r.bytes n).2 = y at *
  clear hY
  go_wp2
  go_loop [6, 7] (fun x i => ∃ k : Nat, k ≤ t.size ∧ i = .int .i64 ((k : Int) - 1) ∧ x = .int .u64 (leNat (t.data.toList.drop k))) (fun _ i => ((intOf i) + 1).toNat)
  case atStart => exact ⟨t.size, Nat.le_refl _, rfl, by rw [List.drop_eq_nil_of_le (by rw [Array.length_toList]; exact Nat.le_refl _)]; rfl⟩
  case round =>
    obtain ⟨k, hk, rfl, rfl⟩ := hrel
    by_cases hlt : 0 < k
    · obtain ⟨j, rfl⟩ : ∃ j, k = j + 1 := ⟨k - 1, by omega⟩
      rw [show (((j + 1 : Nat) : Int) - 1) = (j : Int) from by omega]
      have hj : j < t.size := by omega
      have HV : Hid _ := le_shift t j hj (by omega)
      go_wp2
      go_round
      case rel => exact ⟨j, by omega, rfl, congrArg (Value.int .u64) HV.out⟩
      case measure => show (((j : Int) - 1) + 1).toNat < ((j : Int) + 1).toNat; omega
    · obtain rfl : k = 0 := by omega
      go_wp2
      go_ret
      refine ⟨?_, by rw [HN.out.2]; exact H1.out, m1⟩
      exact ret_int (by rw [HN.out.1])
theorem info_string : (Try.prog.info? 9).map (fun i => (i.zero, i.size, i.bytes)) = some (some (.string ByteArray.empty), 1, 16) := by kernel_rfl
theorem cap_s (r : Rd) (n : Nat) (most : Int) : (r.cap n most).s = r.s := by unfold Rd.cap; split <;> rfl
theorem cap_at (r : Rd) (n : Nat) (most : Int) : (r.cap n most).at_ = r.at_ := by unfold Rd.cap; split <;> rfl

end Go.Proofs.Ytfmlgleeojblkaa
