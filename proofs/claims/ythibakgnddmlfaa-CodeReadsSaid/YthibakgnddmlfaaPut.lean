/- Numbers and texts as bytes: package code's writers, and the document's. -/
import Derived.Test.YthibakgnddmlfaaBase
import Derived.Test.YthibakgnddmlfaaPCode
namespace Go.Proofs.Ythibakgnddmlfaa
open Go.RowKit

theorem info_u8 : (Try.prog.info? 5).map (fun i => (i.zero, i.size, i.bytes)) = some (some (.int .u8 0), 1, 1) := by kernel_rfl

set_option maxHeartbeats 400000 in
theorem put_u8 (x n : Nat) (m : Int) (hm0 : m = n) (w : World) (_hx : x < 18446744073709551616) (hn : n ≤ 8) :
    Calls Try.prog 39 #[.int .u8 x, .int .i64 m] w fun e w' => e = .returned (.string (bs (leBytes n x))) ∧ Mod (fun _ => False) w w' := by
  subst hm0
  have hmk := make_row (P := Try.prog) 31 5 (.int .u8 0) 1 n Try.underlying31 info_u8 rfl (by omega) (by unfold maxLen; omega)
  go_enter Try.func39, Try.ntmps39
  skip
  have H0 : Hid ((w.alloc (.cells (List.replicate n (.int .u8 0)).toArray 5)).heap[w.heap.size]? = some (.cells (List.replicate n (Value.int .u8 0)).toArray 5 (0, 0))) := new_at _ _
  have m0 : Mod (fun _ => False) w (w.alloc (.cells (List.replicate n (.int .u8 0)).toArray 5)) := (Mod.refl _ _).alloc _
  go_wp2
  go_loopw [11] (fun i wr => ∃ (k : Nat) (arr : Array Value), k ≤ n ∧ i = .int .i64 k ∧ Hid (wr.heap[w.heap.size]? = some (.cells arr 5 (0, 0))) ∧ Hid (arr.size = n ∧ ∀ j (h : j < (leBytes n x).length), j < k → arr[j]? = some (.int .u8 ((leBytes n x)[j]).toNat)) ∧ Mod (fun _ => False) w wr) (fun i _ => n - (intOf i).toNat)
  case atStart => exact ⟨0, _, Nat.zero_le _, rfl, H0, ⟨by simp, fun j _ hj => absurd hj (Nat.not_lt_zero _)⟩, m0⟩
  case round =>
    obtain ⟨k, arr, hk, rfl, HB, HA, mr⟩ := hrel
    by_cases hlt : k < n
    · have hsz : k < arr.size := by rw [HA.out.1]; exact hlt
      have hc : wr.cell? ⟨w.heap.size, k, none⟩ = some arr[k] := (cell_of HB.out k).trans (Array.getElem?_eq_getElem hsz)
      have hf : wr.frozen? ⟨w.heap.size, k, none⟩ = false := free_of HB.out k
      generalize arr[k] = old at hc
      have hv : Hid (((leBytes n x)[k]'(by rw [leBytes_length]; exact hlt)).toNat = x / 2 ^ (8 * k) % 256) := leBytes_get n x k (by rw [leBytes_length]; exact hlt)
      go_wp2
      go_roundw
      case rel =>
        refine ⟨k + 1, _, hlt, by go_num, heap_set HB.out k _, ⟨by rw [Array.size_setIfInBounds]; exact HA.out.1, fun j h hj => ?_⟩, mr.setCell (Or.inr (Nat.le_refl _)) _⟩
        rw [Array.getElem?_setIfInBounds]
        by_cases e : k = j
        · subst e
          rw [if_pos rfl, if_pos hsz, hv.out]
          congr 2
        · rw [if_neg e]; exact HA.out.2 j h (by omega)
      case measure => simp [intOf]; omega
    · have hcv := conv_string (P := Try.prog) wr 31 9 5 w.heap.size 0 n (leBytes n x) n (leBytes_length n x).symm Try.underlying31 Try.underlying5 Try.underlying9
        (fun j hj => by rw [Nat.zero_add, cell_of HB.out]; exact HA.out.2 j hj (by rw [leBytes_length] at hj; omega))
      go_wp2
      go_ret
      exact ⟨rfl, mr⟩
set_option maxHeartbeats 400000 in
theorem put_u16 (x n : Nat) (m : Int) (hm0 : m = n) (w : World) (_hx : x < 18446744073709551616) (hn : n ≤ 8) :
    Calls Try.prog 40 #[.int .u16 x, .int .i64 m] w fun e w' => e = .returned (.string (bs (leBytes n x))) ∧ Mod (fun _ => False) w w' := by
  subst hm0
  have hmk := make_row (P := Try.prog) 31 5 (.int .u8 0) 1 n Try.underlying31 info_u8 rfl (by omega) (by unfold maxLen; omega)
  go_enter Try.func40, Try.ntmps40
  skip
  have H0 : Hid ((w.alloc (.cells (List.replicate n (.int .u8 0)).toArray 5)).heap[w.heap.size]? = some (.cells (List.replicate n (Value.int .u8 0)).toArray 5 (0, 0))) := new_at _ _
  have m0 : Mod (fun _ => False) w (w.alloc (.cells (List.replicate n (.int .u8 0)).toArray 5)) := (Mod.refl _ _).alloc _
  go_wp2
  go_loopw [11] (fun i wr => ∃ (k : Nat) (arr : Array Value), k ≤ n ∧ i = .int .i64 k ∧ Hid (wr.heap[w.heap.size]? = some (.cells arr 5 (0, 0))) ∧ Hid (arr.size = n ∧ ∀ j (h : j < (leBytes n x).length), j < k → arr[j]? = some (.int .u8 ((leBytes n x)[j]).toNat)) ∧ Mod (fun _ => False) w wr) (fun i _ => n - (intOf i).toNat)
  case atStart => exact ⟨0, _, Nat.zero_le _, rfl, H0, ⟨by simp, fun j _ hj => absurd hj (Nat.not_lt_zero _)⟩, m0⟩
  case round =>
    obtain ⟨k, arr, hk, rfl, HB, HA, mr⟩ := hrel
    by_cases hlt : k < n
    · have hsz : k < arr.size := by rw [HA.out.1]; exact hlt
      have hc : wr.cell? ⟨w.heap.size, k, none⟩ = some arr[k] := (cell_of HB.out k).trans (Array.getElem?_eq_getElem hsz)
      have hf : wr.frozen? ⟨w.heap.size, k, none⟩ = false := free_of HB.out k
      generalize arr[k] = old at hc
      have hv : Hid (((leBytes n x)[k]'(by rw [leBytes_length]; exact hlt)).toNat = x / 2 ^ (8 * k) % 256) := leBytes_get n x k (by rw [leBytes_length]; exact hlt)
      go_wp2
      go_roundw
      case rel =>
        refine ⟨k + 1, _, hlt, by go_num, heap_set HB.out k _, ⟨by rw [Array.size_setIfInBounds]; exact HA.out.1, fun j h hj => ?_⟩, mr.setCell (Or.inr (Nat.le_refl _)) _⟩
        rw [Array.getElem?_setIfInBounds]
        by_cases e : k = j
        · subst e
          rw [if_pos rfl, if_pos hsz, hv.out]
          congr 2
        · rw [if_neg e]; exact HA.out.2 j h (by omega)
      case measure => simp [intOf]; omega
    · have hcv := conv_string (P := Try.prog) wr 31 9 5 w.heap.size 0 n (leBytes n x) n (leBytes_length n x).symm Try.underlying31 Try.underlying5 Try.underlying9
        (fun j hj => by rw [Nat.zero_add, cell_of HB.out]; exact HA.out.2 j hj (by rw [leBytes_length] at hj; omega))
      go_wp2
      go_ret
      exact ⟨rfl, mr⟩
set_option maxHeartbeats 400000 in
theorem put_u32 (x n : Nat) (m : Int) (hm0 : m = n) (w : World) (_hx : x < 18446744073709551616) (hn : n ≤ 8) :
    Calls Try.prog 41 #[.int .u32 x, .int .i64 m] w fun e w' => e = .returned (.string (bs (leBytes n x))) ∧ Mod (fun _ => False) w w' := by
  subst hm0
  have hmk := make_row (P := Try.prog) 31 5 (.int .u8 0) 1 n Try.underlying31 info_u8 rfl (by omega) (by unfold maxLen; omega)
  go_enter Try.func41, Try.ntmps41
  skip
  have H0 : Hid ((w.alloc (.cells (List.replicate n (.int .u8 0)).toArray 5)).heap[w.heap.size]? = some (.cells (List.replicate n (Value.int .u8 0)).toArray 5 (0, 0))) := new_at _ _
  have m0 : Mod (fun _ => False) w (w.alloc (.cells (List.replicate n (.int .u8 0)).toArray 5)) := (Mod.refl _ _).alloc _
  go_wp2
  go_loopw [11] (fun i wr => ∃ (k : Nat) (arr : Array Value), k ≤ n ∧ i = .int .i64 k ∧ Hid (wr.heap[w.heap.size]? = some (.cells arr 5 (0, 0))) ∧ Hid (arr.size = n ∧ ∀ j (h : j < (leBytes n x).length), j < k → arr[j]? = some (.int .u8 ((leBytes n x)[j]).toNat)) ∧ Mod (fun _ => False) w wr) (fun i _ => n - (intOf i).toNat)
  case atStart => exact ⟨0, _, Nat.zero_le _, rfl, H0, ⟨by simp, fun j _ hj => absurd hj (Nat.not_lt_zero _)⟩, m0⟩
  case round =>
    obtain ⟨k, arr, hk, rfl, HB, HA, mr⟩ := hrel
    by_cases hlt : k < n
    · have hsz : k < arr.size := by rw [HA.out.1]; exact hlt
      have hc : wr.cell? ⟨w.heap.size, k, none⟩ = some arr[k] := (cell_of HB.out k).trans (Array.getElem?_eq_getElem hsz)
      have hf : wr.frozen? ⟨w.heap.size, k, none⟩ = false := free_of HB.out k
      generalize arr[k] = old at hc
      have hv : Hid (((leBytes n x)[k]'(by rw [leBytes_length]; exact hlt)).toNat = x / 2 ^ (8 * k) % 256) := leBytes_get n x k (by rw [leBytes_length]; exact hlt)
      go_wp2
      go_roundw
      case rel =>
        refine ⟨k + 1, _, hlt, by go_num, heap_set HB.out k _, ⟨by rw [Array.size_setIfInBounds]; exact HA.out.1, fun j h hj => ?_⟩, mr.setCell (Or.inr (Nat.le_refl _)) _⟩
        rw [Array.getElem?_setIfInBounds]
        by_cases e : k = j
        · subst e
          rw [if_pos rfl, if_pos hsz, hv.out]
          congr 2
        · rw [if_neg e]; exact HA.out.2 j h (by omega)
      case measure => simp [intOf]; omega
    · have hcv := conv_string (P := Try.prog) wr 31 9 5 w.heap.size 0 n (leBytes n x) n (leBytes_length n x).symm Try.underlying31 Try.underlying5 Try.underlying9
        (fun j hj => by rw [Nat.zero_add, cell_of HB.out]; exact HA.out.2 j hj (by rw [leBytes_length] at hj; omega))
      go_wp2
      go_ret
      exact ⟨rfl, mr⟩
set_option maxHeartbeats 400000 in
theorem put_u64 (x n : Nat) (m : Int) (hm0 : m = n) (w : World) (_hx : x < 18446744073709551616) (hn : n ≤ 8) :
    Calls Try.prog 42 #[.int .u64 x, .int .i64 m] w fun e w' => e = .returned (.string (bs (leBytes n x))) ∧ Mod (fun _ => False) w w' := by
  subst hm0
  have hmk := make_row (P := Try.prog) 31 5 (.int .u8 0) 1 n Try.underlying31 info_u8 rfl (by omega) (by unfold maxLen; omega)
  go_enter Try.func42, Try.ntmps42
  skip
  have H0 : Hid ((w.alloc (.cells (List.replicate n (.int .u8 0)).toArray 5)).heap[w.heap.size]? = some (.cells (List.replicate n (Value.int .u8 0)).toArray 5 (0, 0))) := new_at _ _
  have m0 : Mod (fun _ => False) w (w.alloc (.cells (List.replicate n (.int .u8 0)).toArray 5)) := (Mod.refl _ _).alloc _
  go_wp2
  go_loopw [11] (fun i wr => ∃ (k : Nat) (arr : Array Value), k ≤ n ∧ i = .int .i64 k ∧ Hid (wr.heap[w.heap.size]? = some (.cells arr 5 (0, 0))) ∧ Hid (arr.size = n ∧ ∀ j (h : j < (leBytes n x).length), j < k → arr[j]? = some (.int .u8 ((leBytes n x)[j]).toNat)) ∧ Mod (fun _ => False) w wr) (fun i _ => n - (intOf i).toNat)
  case atStart => exact ⟨0, _, Nat.zero_le _, rfl, H0, ⟨by simp, fun j _ hj => absurd hj (Nat.not_lt_zero _)⟩, m0⟩
  case round =>
    obtain ⟨k, arr, hk, rfl, HB, HA, mr⟩ := hrel
    by_cases hlt : k < n
    · have hsz : k < arr.size := by rw [HA.out.1]; exact hlt
      have hc : wr.cell? ⟨w.heap.size, k, none⟩ = some arr[k] := (cell_of HB.out k).trans (Array.getElem?_eq_getElem hsz)
      have hf : wr.frozen? ⟨w.heap.size, k, none⟩ = false := free_of HB.out k
      generalize arr[k] = old at hc
      have hv : Hid (((leBytes n x)[k]'(by rw [leBytes_length]; exact hlt)).toNat = x / 2 ^ (8 * k) % 256) := leBytes_get n x k (by rw [leBytes_length]; exact hlt)
      go_wp2
      go_roundw
      case rel =>
        refine ⟨k + 1, _, hlt, by go_num, heap_set HB.out k _, ⟨by rw [Array.size_setIfInBounds]; exact HA.out.1, fun j h hj => ?_⟩, mr.setCell (Or.inr (Nat.le_refl _)) _⟩
        rw [Array.getElem?_setIfInBounds]
        by_cases e : k = j
        · subst e
          rw [if_pos rfl, if_pos hsz, hv.out]
          congr 2
        · rw [if_neg e]; exact HA.out.2 j h (by omega)
      case measure => simp [intOf]; omega
    · have hcv := conv_string (P := Try.prog) wr 31 9 5 w.heap.size 0 n (leBytes n x) n (leBytes_length n x).symm Try.underlying31 Try.underlying5 Try.underlying9
        (fun j hj => by rw [Nat.zero_add, cell_of HB.out]; exact HA.out.2 j hj (by rw [leBytes_length] at hj; omega))
      go_wp2
      go_ret
      exact ⟨rfl, mr⟩
set_option maxHeartbeats 400000 in
theorem rnum_any (x n : Nat) (m : Int) (hm0 : m = n) (w : World) (_hx : x < 18446744073709551616) (hn : n ≤ 8) :
    Calls Try.prog 19 #[.int .u64 x, .int .i64 m] w fun e w' => e = .returned (.string (bs (leBytes n x))) ∧ Mod (fun _ => False) w w' := by
  subst hm0
  have hmk := make_row (P := Try.prog) 31 5 (.int .u8 0) 1 n Try.underlying31 info_u8 rfl (by omega) (by unfold maxLen; omega)
  go_enter Try.func19, Try.ntmps19
  skip
  have H0 : Hid ((w.alloc (.cells (List.replicate n (.int .u8 0)).toArray 5)).heap[w.heap.size]? = some (.cells (List.replicate n (Value.int .u8 0)).toArray 5 (0, 0))) := new_at _ _
  have m0 : Mod (fun _ => False) w (w.alloc (.cells (List.replicate n (.int .u8 0)).toArray 5)) := (Mod.refl _ _).alloc _
  go_wp2
  go_loopw [6] (fun i wr => ∃ (k : Nat) (arr : Array Value), k ≤ n ∧ i = .int .i64 k ∧ Hid (wr.heap[w.heap.size]? = some (.cells arr 5 (0, 0))) ∧ Hid (arr.size = n ∧ ∀ j (h : j < (leBytes n x).length), j < k → arr[j]? = some (.int .u8 ((leBytes n x)[j]).toNat)) ∧ Mod (fun _ => False) w wr) (fun i _ => n - (intOf i).toNat)
  case atStart => exact ⟨0, _, Nat.zero_le _, rfl, H0, ⟨by simp, fun j _ hj => absurd hj (Nat.not_lt_zero _)⟩, m0⟩
  case round =>
    obtain ⟨k, arr, hk, rfl, HB, HA, mr⟩ := hrel
    by_cases hlt : k < n
    · have hsz : k < arr.size := by rw [HA.out.1]; exact hlt
      have hc : wr.cell? ⟨w.heap.size, k, none⟩ = some arr[k] := (cell_of HB.out k).trans (Array.getElem?_eq_getElem hsz)
      have hf : wr.frozen? ⟨w.heap.size, k, none⟩ = false := free_of HB.out k
      generalize arr[k] = old at hc
      have hv : Hid (((leBytes n x)[k]'(by rw [leBytes_length]; exact hlt)).toNat = x / 2 ^ (8 * k) % 256) := leBytes_get n x k (by rw [leBytes_length]; exact hlt)
      go_wp2
      go_roundw
      case rel =>
        refine ⟨k + 1, _, hlt, by go_num, heap_set HB.out k _, ⟨by rw [Array.size_setIfInBounds]; exact HA.out.1, fun j h hj => ?_⟩, mr.setCell (Or.inr (Nat.le_refl _)) _⟩
        rw [Array.getElem?_setIfInBounds]
        by_cases e : k = j
        · subst e
          rw [if_pos rfl, if_pos hsz, hv.out]
          congr 2
        · rw [if_neg e]; exact HA.out.2 j h (by omega)
      case measure => simp [intOf]; omega
    · have hcv := conv_string (P := Try.prog) wr 31 9 5 w.heap.size 0 n (leBytes n x) n (leBytes_length n x).symm Try.underlying31 Try.underlying5 Try.underlying9
        (fun j hj => by rw [Nat.zero_add, cell_of HB.out]; exact HA.out.2 j hj (by rw [leBytes_length] at hj; omega))
      go_wp2
      go_ret
      exact ⟨rfl, mr⟩

set_option maxHeartbeats 400000 in
theorem wU8_x (x : Nat) (w : World) (hx : x < 18446744073709551616) :
    Calls Try.prog 18 #[.int .u8 x] w fun e w' => e = .returned (.string (bs (leBytes 1 x))) ∧ Mod (fun _ => False) w w' := by
  go_enter Try.func18, Try.ntmps18
  go_wp2_with fail
  refine (put_u8 x 1 _ rfl _ hx (by omega)).mono ?_
  rintro e w1 ⟨rfl, m1⟩
  go_wp2
  go_ret
  exact ⟨rfl, m1⟩
theorem wU8 (x : Nat) (X : Int) (hX : X = (x : Int) % 256) (w : World) :
    Calls Try.prog 18 #[.int .u8 X] w fun e w' => e = .returned (.string (bs (leBytes 1 x))) ∧ Mod (fun _ => False) w w' := by
  obtain rfl : X = ((x % 256 : Nat) : Int) := by omega
  have h := wU8_x (x % 256) w (by have := Nat.mod_lt x (show 0 < 256 by omega); omega)
  rw [show leBytes 1 (x % 256) = leBytes 1 x from leBytes_mod 1 x] at h
  exact h
set_option maxHeartbeats 400000 in
theorem wU16_x (x : Nat) (w : World) (hx : x < 18446744073709551616) :
    Calls Try.prog 20 #[.int .u16 x] w fun e w' => e = .returned (.string (bs (leBytes 2 x))) ∧ Mod (fun _ => False) w w' := by
  go_enter Try.func20, Try.ntmps20
  go_wp2_with fail
  refine (put_u16 x 2 _ rfl _ hx (by omega)).mono ?_
  rintro e w1 ⟨rfl, m1⟩
  go_wp2
  go_ret
  exact ⟨rfl, m1⟩
theorem wU16 (x : Nat) (X : Int) (hX : X = (x : Int) % 65536) (w : World) :
    Calls Try.prog 20 #[.int .u16 X] w fun e w' => e = .returned (.string (bs (leBytes 2 x))) ∧ Mod (fun _ => False) w w' := by
  obtain rfl : X = ((x % 65536 : Nat) : Int) := by omega
  have h := wU16_x (x % 65536) w (by have := Nat.mod_lt x (show 0 < 65536 by omega); omega)
  rw [show leBytes 2 (x % 65536) = leBytes 2 x from leBytes_mod 2 x] at h
  exact h
set_option maxHeartbeats 400000 in
theorem wU32_x (x : Nat) (w : World) (hx : x < 18446744073709551616) :
    Calls Try.prog 21 #[.int .u32 x] w fun e w' => e = .returned (.string (bs (leBytes 4 x))) ∧ Mod (fun _ => False) w w' := by
  go_enter Try.func21, Try.ntmps21
  go_wp2_with fail
  refine (put_u32 x 4 _ rfl _ hx (by omega)).mono ?_
  rintro e w1 ⟨rfl, m1⟩
  go_wp2
  go_ret
  exact ⟨rfl, m1⟩
theorem wU32 (x : Nat) (X : Int) (hX : X = (x : Int) % 4294967296) (w : World) :
    Calls Try.prog 21 #[.int .u32 X] w fun e w' => e = .returned (.string (bs (leBytes 4 x))) ∧ Mod (fun _ => False) w w' := by
  obtain rfl : X = ((x % 4294967296 : Nat) : Int) := by omega
  have h := wU32_x (x % 4294967296) w (by have := Nat.mod_lt x (show 0 < 4294967296 by omega); omega)
  rw [show leBytes 4 (x % 4294967296) = leBytes 4 x from leBytes_mod 4 x] at h
  exact h
set_option maxHeartbeats 400000 in
theorem wU64_x (x : Nat) (w : World) (hx : x < 18446744073709551616) :
    Calls Try.prog 22 #[.int .u64 x] w fun e w' => e = .returned (.string (bs (leBytes 8 x))) ∧ Mod (fun _ => False) w w' := by
  go_enter Try.func22, Try.ntmps22
  go_wp2_with fail
  refine (put_u64 x 8 _ rfl _ hx (by omega)).mono ?_
  rintro e w1 ⟨rfl, m1⟩
  go_wp2
  go_ret
  exact ⟨rfl, m1⟩
theorem wU64 (x : Nat) (X : Int) (hX : X = (x : Int) % 18446744073709551616) (w : World) :
    Calls Try.prog 22 #[.int .u64 X] w fun e w' => e = .returned (.string (bs (leBytes 8 x))) ∧ Mod (fun _ => False) w w' := by
  obtain rfl : X = ((x % 18446744073709551616 : Nat) : Int) := by omega
  have h := wU64_x (x % 18446744073709551616) w (by have := Nat.mod_lt x (show 0 < 18446744073709551616 by omega); omega)
  rw [show leBytes 8 (x % 18446744073709551616) = leBytes 8 x from leBytes_mod 8 x] at h
  exact h

/-- a text with its length ahead -/
def wText (s : ByteArray) : ByteArray × Int := if 65535 < s.size then (ByteArray.empty, 4) else (bs (leBytes 2 s.size ++ s.data.toList), 0)

set_option maxHeartbeats 400000 in
theorem text_w (s : ByteArray) (w : World) (hs : s.size ≤ maxLen) :
    Calls Try.prog 13 #[.string s] w fun e w' => e = .returned (.tuple #[.string (wText s).1, .int .i64 (wText s).2]) ∧ Mod (fun _ => False) w w' := by
  unfold maxLen at hs
  have HW : Hid (wText s = if 65535 < s.size then (ByteArray.empty, 4) else (bs (leBytes 2 s.size ++ s.data.toList), 0)) := rfl
  by_cases h : 65535 < s.size
  · go_enter Try.func13, Try.ntmps13
    go_wp2
    go_ret2
    refine ⟨?_, Mod.refl _ _⟩
    rw [HW.out, if_pos h]; rfl
  · go_enter Try.func13, Try.ntmps13
    go_wp2_with fail
    refine (wU16 s.size _ (by omega) _).mono ?_
    rintro e w1 ⟨rfl, m1⟩
    have hb : (bs (leBytes 2 s.size)).size ≤ 2 := by rw [bs_size, leBytes_length]; exact Nat.le_refl _
    rw [bs_cat, bs_of] at HW
    generalize bs (leBytes 2 s.size) = t at *
    go_wp2
    go_ret2
    refine ⟨?_, m1⟩
    rw [HW.out, if_neg h]
    rfl
set_option maxHeartbeats 400000 in
theorem text_r (s : ByteArray) (w : World) (hs : s.size ≤ maxLen) :
    Calls Try.prog 14 #[.string s] w fun e w' => e = .returned (.tuple #[.string (wText s).1, .int .i64 (wText s).2]) ∧ Mod (fun _ => False) w w' := by
  unfold maxLen at hs
  have HW : Hid (wText s = if 65535 < s.size then (ByteArray.empty, 4) else (bs (leBytes 2 s.size ++ s.data.toList), 0)) := rfl
  by_cases h : 65535 < s.size
  · go_enter Try.func14, Try.ntmps14
    go_wp2
    go_ret2
    refine ⟨?_, Mod.refl _ _⟩
    rw [HW.out, if_pos h]; rfl
  · go_enter Try.func14, Try.ntmps14
    go_wp2_with fail
    refine (rnum_any _ 2 _ rfl _ (by omega) (by omega)).mono ?_
    rintro e w1 ⟨rfl, m1⟩
    have hb : (bs (leBytes 2 s.size)).size ≤ 2 := by rw [bs_size, leBytes_length]; exact Nat.le_refl _
    rw [bs_cat, bs_of] at HW
    generalize bs (leBytes 2 s.size) = t at *
    go_wp2
    go_ret2
    refine ⟨?_, m1⟩
    rw [HW.out, if_neg h]
    rfl
/-- a text in so many bytes -/
def wPad (s : ByteArray) (n : Int) : ByteArray × Int :=
  if n < 4 then (ByteArray.empty, 2) else if n - 4 < s.size then (ByteArray.empty, 4)
  else (bs (leBytes 4 s.size ++ s.data.toList ++ List.replicate (n.toNat - 4 - s.size) 0), 0)

theorem size_u8 : (Try.prog.info? 5).map (·.size) = some 1 := by kernel_rfl

set_option maxHeartbeats 400000 in
theorem pad_w (s : ByteArray) (n : Int) (w : World) (hs : s.size ≤ maxLen) (hn : n ≤ 4294967296) (hlo : -9223372036854775808 ≤ n) :
    Calls Try.prog 16 #[.string s, .int .i64 n] w fun e w' => e = .returned (.tuple #[.string (wPad s n).1, .int .i64 (wPad s n).2]) ∧ Mod (fun _ => False) w w' := by
  unfold maxLen at hs
  have HW : Hid (wPad s n = if n < 4 then (ByteArray.empty, 2) else if n - 4 < s.size then (ByteArray.empty, 4) else (bs (leBytes 4 s.size ++ s.data.toList ++ List.replicate (n.toNat - 4 - s.size) 0), 0)) := rfl
  by_cases h1 : n < 4
  · go_enter Try.func16, Try.ntmps16
    go_wp2
    go_ret2
    refine ⟨?_, Mod.refl _ _⟩
    rw [HW.out, if_pos (by omega)]; rfl
  · by_cases h2 : n - 4 < s.size
    · go_enter Try.func16, Try.ntmps16
      go_wp2
      go_ret2
      refine ⟨?_, Mod.refl _ _⟩
      rw [HW.out, if_neg (by omega), if_pos (by omega)]; rfl
    · obtain ⟨m, rfl⟩ := Int.eq_ofNat_of_zero_le (show 0 ≤ n by omega)
      have hmk := make_row (P := Try.prog) 31 5 (.int .u8 0) 1 m Try.underlying31 info_u8 rfl (by omega) (by unfold maxLen; omega)
      rw [bc_zeros] at hmk
      have R0 : Hid (BRow (w.alloc (.cells (bc (List.replicate m 0)).toArray 5)) w.heap.size (List.replicate m 0) 5) := new_at _ _
      have m0 : Mod (fun _ => False) w (w.alloc (.cells (bc (List.replicate m 0)).toArray 5)) := (Mod.refl _ _).alloc _
      have hL : Hid ((bs (leBytes 4 s.size)).data.toList = leBytes 4 s.size ∧ (bs (leBytes 4 s.size)).size = 4) := ⟨rfl, leBytes_length 4 _⟩
      go_enter Try.func16, Try.ntmps16
      go_wp2_with fail
      refine (wU32 s.size _ (by omega) _).mono ?_
      rintro e w1 ⟨rfl, m1⟩
      have R1 : Hid (BRow w1 w.heap.size (List.replicate m 0) 5) := R0.out.mod m1 (fun x => x)
      generalize bs (leBytes 4 s.size) = t at *
      have hl1 : List.take 0 (List.replicate m (0 : UInt8)) ++ t.data.toList ++ List.drop (0 + t.size) (List.replicate m 0) = leBytes 4 s.size ++ List.replicate (m - 4) 0 := by
        rw [hL.out.1, hL.out.2]; simp
      have HL1 := Lib.hid hl1; clear hl1
      have hl2 : List.take 4 (leBytes 4 s.size ++ List.replicate (m - 4) (0 : UInt8)) ++ s.data.toList ++ List.drop (4 + s.size) (leBytes 4 s.size ++ List.replicate (m - 4) 0) = leBytes 4 s.size ++ s.data.toList ++ List.replicate (m - 4 - s.size) 0 := by
        rw [List.take_append_of_le_length (by rw [leBytes_length]; omega), List.take_of_length_le (by rw [leBytes_length]; omega), List.drop_append, List.drop_eq_nil_of_le (by rw [leBytes_length]; omega), leBytes_length, List.drop_replicate]
        rw [show m - 4 - (4 + s.size - 4) = m - 4 - s.size from by omega]; rfl
      have HL2 := Lib.hid hl2; clear hl2
      by_cases hm4 : m = 4
      · subst hm4
        go_wp2_with (first | (refine wpl_copy_string rfl (.tmp 18) (.tmp 22) _ _ rfl 5 Try.underlying31 size_u8 w.heap.size 0 4 4 rfl t rfl (List.replicate 4 0) 5 R1.out (by rw [hL.out.2]; omega) (by rw [hL.out.2, List.length_replicate]; omega) ?_; intro w2 R2' m2; have R2 := Lib.hid R2'; clear R2'; rw [HL1.out] at R2; have hcv := conv_row (P := Try.prog) (w := w2) 31 9 5 w.heap.size 4 4 _ R2.out (by rw [List.length_append, leBytes_length, List.length_replicate]) Try.underlying31 Try.underlying5 Try.underlying9) | (refine wpl_copy_empty rfl (.tmp 25) (.tmp 26) _ _ rfl 5 Try.underlying31 size_u8 _ _ _ rfl s rfl (by omega) ?_))
        go_ret2
        refine ⟨?_, (m0.trans m1).trans' m2 (fun k hk e => by omega)⟩
        rw [HW.out, if_neg (by omega), if_neg (by omega)]
        have hs0 : s = ByteArray.empty := ByteArray.size_eq_zero_iff.1 (by omega)
        rw [hs0]; rfl
      · go_wp2_with (first | (refine wpl_copy_string rfl (.tmp 18) (.tmp 22) _ _ rfl 5 Try.underlying31 size_u8 w.heap.size 0 m m rfl t rfl (List.replicate m 0) 5 R1.out (by rw [hL.out.2]; omega) (by rw [hL.out.2, List.length_replicate]; omega) ?_; intro w2 R2' m2; have R2 := Lib.hid R2'; clear R2'; rw [HL1.out] at R2) | (refine wpl_copy_string rfl (.tmp 25) (.tmp 26) _ _ rfl 5 Try.underlying31 size_u8 w.heap.size 4 (m - 4) (m - 4) rfl s rfl _ 5 R2.out (by omega) (by rw [List.length_append, leBytes_length, List.length_replicate]; omega) ?_; intro w3 R3' m3; have R3 := Lib.hid R3'; clear R3'; rw [HL2.out] at R3; have hcv := conv_row (P := Try.prog) (w := w3) 31 9 5 w.heap.size m m _ R3.out (by rw [List.length_append, List.length_append, leBytes_length, List.length_replicate, Array.length_toList]; have : s.data.size = s.size := rfl; omega) Try.underlying31 Try.underlying5 Try.underlying9))
        go_ret2
        refine ⟨?_, ((m0.trans m1).trans' m2 (fun k hk e => by omega)).trans' m3 (fun k hk e => by omega)⟩
        rw [HW.out, if_neg (by omega), if_neg (by omega)]
        rfl
set_option maxHeartbeats 1000000 in
theorem pad_r (s : ByteArray) (n : Int) (w : World) (hs : s.size ≤ maxLen) (hn : n ≤ 4294967296) (hlo : -9223372036854775808 ≤ n) :
    Calls Try.prog 17 #[.string s, .int .i64 n] w fun e w' => e = .returned (.tuple #[.string (wPad s n).1, .int .i64 (wPad s n).2]) ∧ Mod (fun _ => False) w w' := by
  unfold maxLen at hs
  have HW : Hid (wPad s n = if n < 4 then (ByteArray.empty, 2) else if n - 4 < s.size then (ByteArray.empty, 4) else (bs (leBytes 4 s.size ++ s.data.toList ++ List.replicate (n.toNat - 4 - s.size) 0), 0)) := rfl
  by_cases h1 : n < 4
  · go_enter Try.func17, Try.ntmps17
    go_wp2
    go_ret2
    refine ⟨?_, Mod.refl _ _⟩
    rw [HW.out, if_pos (by omega)]; rfl
  · by_cases h2 : n - 4 < s.size
    · go_enter Try.func17, Try.ntmps17
      go_wp2
      go_ret2
      refine ⟨?_, Mod.refl _ _⟩
      rw [HW.out, if_neg (by omega), if_pos (by omega)]; rfl
    · obtain ⟨m, rfl⟩ := Int.eq_ofNat_of_zero_le (show 0 ≤ n by omega)
      obtain ⟨k, hk⟩ : ∃ k : Nat, (m : Int) - 4 - s.size = k := ⟨m - 4 - s.size, by omega⟩
      have e1 : IntKind.i64.wrap ((m : Int) - 4) = (m : Int) - 4 := by rw [IntKind.wrap_i64]; omega
      have e2 : IntKind.i64.wrap ((m : Int) - 4 - s.size) = (m : Int) - 4 - s.size := by rw [IntKind.wrap_i64]; omega
      have e3 : IntKind.u64.wrap (s.size : Int) = (s.size : Int) := by rw [IntKind.wrap_u64]; omega
      have hmk := make_rowI (P := Try.prog) 31 5 (.int .u8 0) 1 k _ hk Try.underlying31 info_u8 rfl (by omega) (by unfold maxLen; omega)
      rw [bc_zeros] at hmk
      have hz := conv_new (P := Try.prog) 31 9 5 k (List.replicate k 0) (by rw [List.length_replicate]) Try.underlying31 Try.underlying5 Try.underlying9
      have hz2 := conv_new_drew (P := Try.prog) 31 9 5 k (List.replicate k 0) (by rw [List.length_replicate]) Try.underlying31 Try.underlying5 Try.underlying9
      have hk1 : k ≤ 4294967296 := by omega
      have hb4 : (bs (leBytes 4 s.size)).size = 4 := leBytes_length 4 _
      have hbk : (bs (List.replicate k 0)).size = k := by rw [bs_size, List.length_replicate]
      have hfin : Hid (wPad s m = (bs (leBytes 4 s.size) ++ s ++ bs (List.replicate k 0), 0)) := by
        show _ = _
        rw [HW.out, if_neg (by omega), if_neg (by omega), bs_cat, bs_cat, bs_of, Int.toNat_natCast, show m - 4 - s.size = k from by omega]
      have HK := Lib.hid hk; clear hk
      go_enter Try.func17, Try.ntmps17
      go_wp2
      go_region_with (first | (go_at_call 19; refine (rnum_any s.size 4 _ rfl _ (by omega) (by omega)).mono ?_; rintro e w1 ⟨rfl, m1⟩; (have hB := BRow.mod (w' := w1) (S := fun _ => False) (show BRow ((w.alloc (.cells (bc (List.replicate k 0)).toArray 5)).drew) w.heap.size (List.replicate k 0) 5 from new_at w _) m1 (fun x => x)); have hcv := conv_row (P := Try.prog) (w := w1) 31 9 5 w.heap.size k k _ hB (by rw [List.length_replicate]) Try.underlying31 Try.underlying5 Try.underlying9; have hB' := Lib.hid hB; clear hB) | (go_at_call 19; refine (rnum_any s.size 4 _ rfl _ (by omega) (by omega)).mono ?_; rintro e w1 ⟨rfl, m1⟩))
      all_goals go_wp2
      all_goals go_ret2
      all_goals refine ⟨?_, ?_⟩
      all_goals first | (rw [hfin.out]; rfl) | exact m1.ofDrew | exact m1.ofDrew.drew | exact (m1.ofDrew.alloc _) | exact (m1.ofDrew.alloc _).drew | exact m1.ofDrew.ofAlloc | exact m1.ofAlloc | exact m1.ofAlloc.drew | exact m1.ofDrew.ofAlloc.drew
end Go.Proofs.Ythibakgnddmlfaa
