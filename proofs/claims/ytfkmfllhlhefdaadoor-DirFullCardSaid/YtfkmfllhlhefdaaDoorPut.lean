/- Numbers and texts as bytes: package code's writers, and the document's. -/
import Derived.Test.YtfkmfllhlhefdaaDoorBase
import Derived.Test.YtfkmfllhlhefdaaDoorPCode
namespace Go.Proofs.YtfkmfllhlhefdaaDoor
open Go.RowKit

theorem info_byte : (Tryd.prog.info? 5).map (fun i => (i.zero, i.size, i.bytes)) = some (some (.int .u8 0), 1, 1) := by kernel_rfl

set_option maxHeartbeats 400000 in
theorem put_u8 (x n : Nat) (m : Int) (hm0 : m = n) (w : World) (_hx : x < 18446744073709551616) (hn : n ≤ 8) :
    Calls Tryd.prog 51 #[.int .u8 x, .int .i64 m] w fun e w' => e = .returned (.string (bs (leBytes n x))) ∧ Mod (fun _ => False) w w' := by
  subst hm0
  have hmk := make_row (P := Tryd.prog) 31 5 (.int .u8 0) 1 n Tryd.underlying31 info_byte rfl (by omega) (by unfold maxLen; omega)
  go_enter Tryd.func51, Tryd.ntmps51
  skip
  have H0 : Hid ((w.alloc (.cells (List.replicate n (.int .u8 0)).toArray 5)).heap[w.heap.size]? = some (.cells (List.replicate n (Value.int .u8 0)).toArray 5 (0, 0))) := new_at _ _
  have m0 : Mod (fun _ => False) w (w.alloc (.cells (List.replicate n (.int .u8 0)).toArray 5)) := (Mod.refl _ _).alloc _
  go_wp2
  go_loopw [11] (fun i wr => ∃ (k : Nat) (arr : Array Value), k ≤ n ∧ i = .int .i64 k ∧ Hid (wr.heap[w.heap.size]? = some (.cells arr 5 (0, 0))) ∧ Hid (arr.size = n ∧ ∀ j (h : j < (leBytes n x).length), j < k → arr[j]? = some (.int .u8 ((leBytes n x)[j]).toNat)) ∧ Mod (fun _ => False) w wr) (fun i _ => n - (intOf i).toNat)
  case atStart => exact ⟨0, _, Nat.zero_le _, rfl, H0, ⟨by simp, fun j _ hj => absurd hj (Nat.not_lt_zero _)⟩, m0⟩
  case round =>
    obtain ⟨k, arr, hk, rfl, HB, HA, mr⟩ := hrel
    by_cases hlt : k < n
    · have hsz : k < arr.size := by rw [HA.out.1]; exact hlt
      have hc : wr.cell? ⟨w.heap.size, k, none⟩ = some arr[k] := (cell_of HB.out k).trans (Array.getElem?_eq_getElem hsz)
      have hf : wr.frozen? ⟨w.heap.size, k, none⟩ = false := free_of HB.out k
      generalize arr[k] = old at hc
      have hv : Hid (((leBytes n x)[k]'(by rw [leBytes_length]; exact hlt)).toNat = x / 2 ^ (8 * k) % 256) := leBytes_get n x k (by rw [leBytes_length]; exact hlt)
      go_wp2
      go_roundw
      case rel =>
        refine ⟨k + 1, _, hlt, by go_num, heap_set HB.out k _, ⟨by rw [Array.size_setIfInBounds]; exact HA.out.1, fun j h hj => ?_⟩, mr.setCell (Or.inr (Nat.le_refl _)) _⟩
        rw [Array.getElem?_setIfInBounds]
        by_cases e : k = j
        · subst e
          rw [if_pos rfl, if_pos hsz, hv.out]
          congr 2
        · rw [if_neg e]; exact HA.out.2 j h (by omega)
      case measure => simp [intOf]; omega
    · have hcv := conv_string (P := Tryd.prog) wr 31 9 5 w.heap.size 0 n (leBytes n x) n (leBytes_length n x).symm Tryd.underlying31 Tryd.underlying5 Tryd.underlying9
        (fun j hj => by rw [Nat.zero_add, cell_of HB.out]; exact HA.out.2 j hj (by rw [leBytes_length] at hj; omega))
      go_wp2
      go_ret
      exact ⟨rfl, mr⟩
set_option maxHeartbeats 400000 in
theorem put_u64 (x n : Nat) (m : Int) (hm0 : m = n) (w : World) (_hx : x < 18446744073709551616) (hn : n ≤ 8) :
    Calls Tryd.prog 50 #[.int .u64 x, .int .i64 m] w fun e w' => e = .returned (.string (bs (leBytes n x))) ∧ Mod (fun _ => False) w w' := by
  subst hm0
  have hmk := make_row (P := Tryd.prog) 31 5 (.int .u8 0) 1 n Tryd.underlying31 info_byte rfl (by omega) (by unfold maxLen; omega)
  go_enter Tryd.func50, Tryd.ntmps50
  skip
  have H0 : Hid ((w.alloc (.cells (List.replicate n (.int .u8 0)).toArray 5)).heap[w.heap.size]? = some (.cells (List.replicate n (Value.int .u8 0)).toArray 5 (0, 0))) := new_at _ _
  have m0 : Mod (fun _ => False) w (w.alloc (.cells (List.replicate n (.int .u8 0)).toArray 5)) := (Mod.refl _ _).alloc _
  go_wp2
  go_loopw [11] (fun i wr => ∃ (k : Nat) (arr : Array Value), k ≤ n ∧ i = .int .i64 k ∧ Hid (wr.heap[w.heap.size]? = some (.cells arr 5 (0, 0))) ∧ Hid (arr.size = n ∧ ∀ j (h : j < (leBytes n x).length), j < k → arr[j]? = some (.int .u8 ((leBytes n x)[j]).toNat)) ∧ Mod (fun _ => False) w wr) (fun i _ => n - (intOf i).toNat)
  case atStart => exact ⟨0, _, Nat.zero_le _, rfl, H0, ⟨by simp, fun j _ hj => absurd hj (Nat.not_lt_zero _)⟩, m0⟩
  case round =>
    obtain ⟨k, arr, hk, rfl, HB, HA, mr⟩ := hrel
    by_cases hlt : k < n
    · have hsz : k < arr.size := by rw [HA.out.1]; exact hlt
      have hc : wr.cell? ⟨w.heap.size, k, none⟩ = some arr[k] := (cell_of HB.out k).trans (Array.getElem?_eq_getElem hsz)
      have hf : wr.frozen? ⟨w.heap.size, k, none⟩ = false := free_of HB.out k
      generalize arr[k] = old at hc
      have hv : Hid (((leBytes n x)[k]'(by rw [leBytes_length]; exact hlt)).toNat = x / 2 ^ (8 * k) % 256) := leBytes_get n x k (by rw [leBytes_length]; exact hlt)
      go_wp2
      go_roundw
      case rel =>
        refine ⟨k + 1, _, hlt, by go_num, heap_set HB.out k _, ⟨by rw [Array.size_setIfInBounds]; exact HA.out.1, fun j h hj => ?_⟩, mr.setCell (Or.inr (Nat.le_refl _)) _⟩
        rw [Array.getElem?_setIfInBounds]
        by_cases e : k = j
        · subst e
          rw [if_pos rfl, if_pos hsz, hv.out]
          congr 2
        · rw [if_neg e]; exact HA.out.2 j h (by omega)
      case measure => simp [intOf]; omega
    · have hcv := conv_string (P := Tryd.prog) wr 31 9 5 w.heap.size 0 n (leBytes n x) n (leBytes_length n x).symm Tryd.underlying31 Tryd.underlying5 Tryd.underlying9
        (fun j hj => by rw [Nat.zero_add, cell_of HB.out]; exact HA.out.2 j hj (by rw [leBytes_length] at hj; omega))
      go_wp2
      go_ret
      exact ⟨rfl, mr⟩
set_option maxHeartbeats 400000 in
theorem wU8_x (x : Nat) (w : World) (hx : x < 18446744073709551616) :
    Calls Tryd.prog 42 #[.int .u8 x] w fun e w' => e = .returned (.string (bs (leBytes 1 x))) ∧ Mod (fun _ => False) w w' := by
  go_enter Tryd.func42, Tryd.ntmps42
  go_wp2_with fail
  refine (put_u8 x 1 _ rfl _ hx (by omega)).mono ?_
  rintro e w1 ⟨rfl, m1⟩
  go_wp2
  go_ret
  exact ⟨rfl, m1⟩
theorem wU8 (x : Nat) (X : Int) (hX : X = (x : Int) % 256) (w : World) :
    Calls Tryd.prog 42 #[.int .u8 X] w fun e w' => e = .returned (.string (bs (leBytes 1 x))) ∧ Mod (fun _ => False) w w' := by
  obtain rfl : X = ((x % 256 : Nat) : Int) := by omega
  have h := wU8_x (x % 256) w (by have := Nat.mod_lt x (show 0 < 256 by omega); omega)
  rw [show leBytes 1 (x % 256) = leBytes 1 x from leBytes_mod 1 x] at h
  exact h
set_option maxHeartbeats 400000 in
theorem wU64_x (x : Nat) (w : World) (hx : x < 18446744073709551616) :
    Calls Tryd.prog 41 #[.int .u64 x] w fun e w' => e = .returned (.string (bs (leBytes 8 x))) ∧ Mod (fun _ => False) w w' := by
  go_enter Tryd.func41, Tryd.ntmps41
  go_wp2_with fail
  refine (put_u64 x 8 _ rfl _ hx (by omega)).mono ?_
  rintro e w1 ⟨rfl, m1⟩
  go_wp2
  go_ret
  exact ⟨rfl, m1⟩
theorem wU64 (x : Nat) (X : Int) (hX : X = (x : Int) % 18446744073709551616) (w : World) :
    Calls Tryd.prog 41 #[.int .u64 X] w fun e w' => e = .returned (.string (bs (leBytes 8 x))) ∧ Mod (fun _ => False) w w' := by
  obtain rfl : X = ((x % 18446744073709551616 : Nat) : Int) := by omega
  have h := wU64_x (x % 18446744073709551616) w (by have := Nat.mod_lt x (show 0 < 18446744073709551616 by omega); omega)
  rw [show leBytes 8 (x % 18446744073709551616) = leBytes 8 x from leBytes_mod 8 x] at h
  exact h

/-- a text with its length ahead -/
def wText (s : ByteArray) : ByteArray × Int := if 65535 < s.size then (ByteArray.empty, 4) else (bs (leBytes 2 s.size ++ s.data.toList), 0)

/-- a text in so many bytes -/
def wPad (s : ByteArray) (n : Int) : ByteArray × Int :=
  if n < 4 then (ByteArray.empty, 2) else if n - 4 < s.size then (ByteArray.empty, 4)
  else (bs (leBytes 4 s.size ++ s.data.toList ++ List.replicate (n.toNat - 4 - s.size) 0), 0)

theorem size_u8 : (Tryd.prog.info? 5).map (·.size) = some 1 := by kernel_rfl

end Go.Proofs.YtfkmfllhlhefdaaDoor
