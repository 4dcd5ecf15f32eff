/- The contracts of package code's reader. -/
import Derived.Test.YtfkmfllhlhefdaaDoorBase
import Derived.Test.YtfkmfllhlhefdaaDoorPCode
namespace Go.Proofs.YtfkmfllhlhefdaaDoor
open Go.RowKit

/-- a reader in memory -/
def rdObj (s : ByteArray) (at_ : Nat) (f : Int) : Obj := .cells #[.string s, .int .i64 at_, .int .i64 f, .bool true] 100 (0, 0)

def rdO (r : Rd) : Obj := rdObj r.s r.at_ r.f


set_option maxHeartbeats 400000 in
theorem rd_bytes_nil (n : Int) (w : World) :
    Calls Tryd.prog 48 #[.pointer none, .int .i64 n] w fun e w' => e = .returned (.string ByteArray.empty) ∧ w = w' := by
  go_enter Tryd.func48, Tryd.ntmps48
  go_wp2
  go_ret
  exact ⟨rfl, rfl⟩

set_option maxHeartbeats 400000 in
theorem bytes_fault (b : Nat) (s : ByteArray) (at_ : Nat) (f n : Int) (w : World) (h : w.heap[b]? = some (rdObj s at_ f)) (hf : (f != 0) = true) :
    Calls Tryd.prog 48 #[.pointer (some ⟨b, 0, none⟩), .int .i64 n] w fun e w' => e = .returned (.string ByteArray.empty) ∧ w = w' := by
  have c0 : w.cell? ⟨b, 0, none⟩ = some (.string s) := (cell_of h 0).trans rfl
  have c1 : w.cell? ⟨b, 1, none⟩ = some (.int .i64 at_) := (cell_of h 1).trans rfl
  have c2 : w.cell? ⟨b, 2, none⟩ = some (.int .i64 f) := (cell_of h 2).trans rfl
  have c3 : w.cell? ⟨b, 3, none⟩ = some (.bool true) := (cell_of h 3).trans rfl
  have f1 : w.frozen? ⟨b, 1, none⟩ = false := free_of h 1
  have f2 : w.frozen? ⟨b, 2, none⟩ = false := free_of h 2
  have H := Lib.hid h; clear h
  go_enter Tryd.func48, Tryd.ntmps48
  go_wp2
  go_ret
  exact ⟨rfl, rfl⟩

set_option maxHeartbeats 400000 in
theorem bytes_neg (b : Nat) (s : ByteArray) (at_ : Nat) (n : Int) (w : World) (h : w.heap[b]? = some (rdObj s at_ 0)) (hn : n < 0) :
    Calls Tryd.prog 48 #[.pointer (some ⟨b, 0, none⟩), .int .i64 n] w fun e w' => e = .returned (.string ByteArray.empty) ∧ w'.heap[b]? = some (rdObj s at_ 2) ∧ Mod (· = b) w w' := by
  have c0 : w.cell? ⟨b, 0, none⟩ = some (.string s) := (cell_of h 0).trans rfl
  have c1 : w.cell? ⟨b, 1, none⟩ = some (.int .i64 at_) := (cell_of h 1).trans rfl
  have c2 : w.cell? ⟨b, 2, none⟩ = some (.int .i64 0) := (cell_of h 2).trans rfl
  have c3 : w.cell? ⟨b, 3, none⟩ = some (.bool true) := (cell_of h 3).trans rfl
  have f1 : w.frozen? ⟨b, 1, none⟩ = false := free_of h 1
  have f2 : w.frozen? ⟨b, 2, none⟩ = false := free_of h 2
  have H := Lib.hid h; clear h
  go_enter Tryd.func48, Tryd.ntmps48
  go_wp2
  go_ret
  exact ⟨rfl, heap_set H.out 2 _, Mod.set1 _ _ _ _⟩

set_option maxHeartbeats 400000 in
theorem bytes_short (b : Nat) (s : ByteArray) (at_ n : Nat) (w : World) (h : w.heap[b]? = some (rdObj s at_ 0)) (hs : s.size ≤ maxLen) (hat : at_ ≤ s.size) (hn : (s.size : Int) - at_ < n) :
    Calls Tryd.prog 48 #[.pointer (some ⟨b, 0, none⟩), .int .i64 n] w fun e w' => e = .returned (.string ByteArray.empty) ∧ w'.heap[b]? = some (rdObj s at_ 50) ∧ Mod (· = b) w w' := by
  unfold maxLen at hs
  have c0 : w.cell? ⟨b, 0, none⟩ = some (.string s) := (cell_of h 0).trans rfl
  have c1 : w.cell? ⟨b, 1, none⟩ = some (.int .i64 at_) := (cell_of h 1).trans rfl
  have c2 : w.cell? ⟨b, 2, none⟩ = some (.int .i64 0) := (cell_of h 2).trans rfl
  have c3 : w.cell? ⟨b, 3, none⟩ = some (.bool true) := (cell_of h 3).trans rfl
  have f1 : w.frozen? ⟨b, 1, none⟩ = false := free_of h 1
  have f2 : w.frozen? ⟨b, 2, none⟩ = false := free_of h 2
  have H := Lib.hid h; clear h
  go_enter Tryd.func48, Tryd.ntmps48
  go_wp2
  go_quiet (fail)
  go_wp2
  go_ret
  exact ⟨rfl, heap_set (H.out : w.heap[b]? = _) 2 _, (Mod.set1 _ _ _ _).drewN _⟩

set_option maxHeartbeats 400000 in
theorem bytes_ok (b : Nat) (s : ByteArray) (at_ n : Nat) (w : World) (h : w.heap[b]? = some (rdObj s at_ 0)) (hs : s.size ≤ maxLen) (hn : at_ + n ≤ s.size) :
    Calls Tryd.prog 48 #[.pointer (some ⟨b, 0, none⟩), .int .i64 n] w fun e w' => e = .returned (.string (s.extract at_ (at_ + n))) ∧ w'.heap[b]? = some (rdObj s (at_ + n) 0) ∧ Mod (· = b) w w' := by
  unfold maxLen at hs
  have c0 : w.cell? ⟨b, 0, none⟩ = some (.string s) := (cell_of h 0).trans rfl
  have c1 : w.cell? ⟨b, 1, none⟩ = some (.int .i64 at_) := (cell_of h 1).trans rfl
  have c2 : w.cell? ⟨b, 2, none⟩ = some (.int .i64 0) := (cell_of h 2).trans rfl
  have c3 : w.cell? ⟨b, 3, none⟩ = some (.bool true) := (cell_of h 3).trans rfl
  have f1 : w.frozen? ⟨b, 1, none⟩ = false := free_of h 1
  have f2 : w.frozen? ⟨b, 2, none⟩ = false := free_of h 2
  have H := Lib.hid h; clear h
  go_enter Tryd.func48, Tryd.ntmps48
  go_wp2
  go_quiet (fail)
  go_wp2
  go_quiet (fail)
  go_wp2
  go_ret
  exact ⟨rfl, heap_set (H.out : w.heap[b]? = _) 1 _, ((Mod.set1 _ _ _ _).drewN _).drewN _⟩

/-- any call of Bytes -/
theorem bytes_any (b : Nat) (r : Rd) (n : Int) (w : World) (h : w.heap[b]? = some (rdO r)) (hs : r.s.size ≤ maxLen) (hat : r.at_ ≤ r.s.size) :
    Calls Tryd.prog 48 #[.pointer (some ⟨b, 0, none⟩), .int .i64 n] w fun e w' => e = .returned (.string (r.bytes n).1) ∧ w'.heap[b]? = some (rdO (r.bytes n).2) ∧ Mod (· = b) w w' := by
  unfold Rd.bytes
  by_cases h1 : r.f = 0
  · rw [if_neg (by omega)]
    obtain ⟨s, at_, f⟩ := r
    obtain rfl : f = 0 := h1
    by_cases h2 : n < 0
    · rw [if_pos h2]
      exact bytes_neg b s at_ n w h h2
    · rw [if_neg h2]
      obtain ⟨k, rfl⟩ := Int.eq_ofNat_of_zero_le (Int.not_lt.1 h2)
      by_cases h3 : s.size < at_ + k
      · rw [if_pos (by simp only [Int.toNat_natCast]; omega)]
        exact bytes_short b s at_ k w h hs hat (by omega)
      · rw [if_neg (by simp only [Int.toNat_natCast]; omega)]
        exact bytes_ok b s at_ k w h hs (by omega)
  · rw [if_pos h1]
    exact (bytes_fault b r.s r.at_ r.f n w h (by simpa using h1)).mono fun e w' ⟨he, hw⟩ => ⟨he, hw ▸ h, hw ▸ Mod.refl _ _⟩

set_option maxHeartbeats 400000 in
theorem get_uint8 (b : Nat) (r : Rd) (w : World) (h : w.heap[b]? = some (rdO r)) (hs : r.s.size ≤ maxLen) (hat : r.at_ ≤ r.s.size) :
    Calls Tryd.prog 60 #[.pointer (some ⟨b, 0, none⟩), .int .i64 1] w fun e w' => e = .returned (.int .u8 (r.num 1).1) ∧ w'.heap[b]? = some (rdO (r.num 1).2) ∧ Mod (· = b) w w' := by
  go_enter Tryd.func60, Tryd.ntmps60
  go_wp2_with fail
  refine (bytes_any b r 1 _ h hs hat).mono ?_
  rintro e w1 ⟨rfl, h1, m1⟩
  have hsz : (r.bytes (1 : Nat)).1.size ≤ 1 := Rd.bytes_size_le r 1
  have e0 : r.bytes ((1 : Nat) : Int) = r.bytes (1 : Int) := rfl
  rw [e0] at hsz
  have HN : Hid ((r.num 1).1 = leNat (r.bytes 1).1.data.toList ∧ (r.num 1).2 = (r.bytes 1).2) := ⟨rfl, rfl⟩
  generalize hT : (r.bytes 1).1 = t at *
  have hlt := leNat_lt t.data.toList
  have HL : Hid ((leNat t.data.toList : Int) = IntKind.u8.wrap (leNat t.data.toList)) := by
    have : t.data.toList.length ≤ 1 := by rw [Array.length_toList]; exact hsz
    have : (2 : Nat) ^ (8 * t.data.toList.length) ≤ 2 ^ (8 * 1) := Nat.pow_le_pow_right (by omega) (by omega)
    show _ = _
    rw [IntKind.wrap_u8]
    omega
  clear hlt
  obtain ⟨w2, c, hk, hcell, hm2, hlt⟩ := conv_bytes (P := Tryd.prog) w1 9 31 5 t Tryd.underlying9 Tryd.underlying31 Tryd.underlying5
  have HC := Lib.hid hcell; clear hcell
  have H1 := Lib.hid h1; clear h1
  clear hT e0 h
  generalize hY : (r.bytes 1).2 = y at *
  clear hY
  have htk := lt_of H1.out
  go_wp2
  go_loop [5, 13] (fun x i => ∃ k : Nat, k ≤ t.size ∧ i = .int .i64 k ∧ x = .int .u64 (leNat (t.data.toList.take k))) (fun _ i => t.size - (intOf i).toNat)
  case atStart => exact ⟨0, Nat.zero_le _, rfl, rfl⟩
  case round =>
    obtain ⟨k, hk, rfl, rfl⟩ := hrel
    by_cases hlt : k < t.size
    · have hc := HC.out k hlt
      go_wp2
      go_round
      case rel => exact ⟨k + 1, hlt, by go_num, by rw [le_round t k hlt (by omega)]⟩
      case measure => simp [intOf]; omega
    · go_wp2
      go_ret
      refine ⟨?_, by rw [hm2.block b htk (fun x => x), HN.out.2]; exact H1.out, m1.trans (hm2.mono fun _ _ x => x.elim)⟩
      refine ret_int ?_
      have hl := HL.out
      rw [show k = t.size from by omega, take_all, HN.out.1]
      all_goals (generalize leNat t.data.toList = q at *; first | exact hl.symm | (rw [IntKind.wrap_u8] at hl; exact hl.symm))
set_option maxHeartbeats 400000 in
theorem get_uint64 (b : Nat) (r : Rd) (w : World) (h : w.heap[b]? = some (rdO r)) (hs : r.s.size ≤ maxLen) (hat : r.at_ ≤ r.s.size) :
    Calls Tryd.prog 59 #[.pointer (some ⟨b, 0, none⟩), .int .i64 8] w fun e w' => e = .returned (.int .u64 (r.num 8).1) ∧ w'.heap[b]? = some (rdO (r.num 8).2) ∧ Mod (· = b) w w' := by
  go_enter Tryd.func59, Tryd.ntmps59
  go_wp2_with fail
  refine (bytes_any b r 8 _ h hs hat).mono ?_
  rintro e w1 ⟨rfl, h1, m1⟩
  have hsz : (r.bytes (8 : Nat)).1.size ≤ 8 := Rd.bytes_size_le r 8
  have e0 : r.bytes ((8 : Nat) : Int) = r.bytes (8 : Int) := rfl
  rw [e0] at hsz
  have HN : Hid ((r.num 8).1 = leNat (r.bytes 8).1.data.toList ∧ (r.num 8).2 = (r.bytes 8).2) := ⟨rfl, rfl⟩
  generalize hT : (r.bytes 8).1 = t at *
  have hlt := leNat_lt t.data.toList
  have HL : Hid ((leNat t.data.toList : Int) = IntKind.u64.wrap (leNat t.data.toList)) := by
    have : t.data.toList.length ≤ 8 := by rw [Array.length_toList]; exact hsz
    have : (2 : Nat) ^ (8 * t.data.toList.length) ≤ 2 ^ (8 * 8) := Nat.pow_le_pow_right (by omega) (by omega)
    show _ = _
    rw [IntKind.wrap_u64]
    omega
  clear hlt
  obtain ⟨w2, c, hk, hcell, hm2, hlt⟩ := conv_bytes (P := Tryd.prog) w1 9 31 5 t Tryd.underlying9 Tryd.underlying31 Tryd.underlying5
  have HC := Lib.hid hcell; clear hcell
  have H1 := Lib.hid h1; clear h1
  clear hT e0 h
  generalize hY : (r.bytes 8).2 = y at *
  clear hY
  have htk := lt_of H1.out
  go_wp2
  go_loop [5, 13] (fun x i => ∃ k : Nat, k ≤ t.size ∧ i = .int .i64 k ∧ x = .int .u64 (leNat (t.data.toList.take k))) (fun _ i => t.size - (intOf i).toNat)
  case atStart => exact ⟨0, Nat.zero_le _, rfl, rfl⟩
  case round =>
    obtain ⟨k, hk, rfl, rfl⟩ := hrel
    by_cases hlt : k < t.size
    · have hc := HC.out k hlt
      go_wp2
      go_round
      case rel => exact ⟨k + 1, hlt, by go_num, by rw [le_round t k hlt (by omega)]⟩
      case measure => simp [intOf]; omega
    · go_wp2
      go_ret
      refine ⟨?_, by rw [hm2.block b htk (fun x => x), HN.out.2]; exact H1.out, m1.trans (hm2.mono fun _ _ x => x.elim)⟩
      refine ret_int ?_
      have hl := HL.out
      rw [show k = t.size from by omega, take_all, HN.out.1]
      all_goals (generalize leNat t.data.toList = q at *; first | exact hl.symm | (rw [IntKind.wrap_u64] at hl; exact hl.symm))
end Go.Proofs.YtfkmfllhlhefdaaDoor
