/- New, Len, Free, Bytes, Is, turn, Mark, Give of the bits. -/
import Derived.Test.YtfmlgleeojblkaaBits
namespace Go.Proofs.Ytfmlgleeojblkaa
open Go.RowKit

theorem info_u64 : (Try.prog.info? 80).map (fun i => (i.zero, i.size, i.bytes)) = some (some (.int .u64 0), 1, 8) := by kernel_rfl

theorem new_no (n : Int) (w : World) (h : n < 1 ∨ 16384 < n) : Calls Try.prog 14 #[.int .i64 n] w fun e w' => e = .returned (.tuple #[.pointer none, .int .i64 2]) ∧ w' = w := by
  by_cases h1 : n < 1
  · have t1 : decide (n < 1) = true := by simp [h1]
    go_enter Try.func14, Try.ntmps14
    go_wp2
    go_ret2
    exact ⟨rfl, rfl⟩
  · have t1 : decide (n < 1) = false := by simp; omega
    have t2 : decide (16384 < n) = true := by simp; omega
    go_enter Try.func14, Try.ntmps14
    go_wp2
    go_ret2
    exact ⟨rfl, rfl⟩

theorem new_any (n : Nat) (w : World) (h1 : 1 ≤ n) (h2 : n ≤ 16384) : Calls Try.prog 14 #[.int .i64 n] w fun e w' =>
    e = .returned (.tuple #[.pointer (some ⟨w.heap.size + 1, 0, none⟩), .int .i64 0]) ∧ BitsAt w' (w.heap.size + 1) w.heap.size n (fun _ => false) ∧ Mod (fun _ => False) w w' := by
  have hmk := make_rowI (P := Try.prog) 72 80 (.int .u64 0) 8 ((n + 63) / 64) (((n : Int) + 63) / 64) (by omega) Try.underlying72 info_u64 rfl (by omega) (by unfold maxLen; omega)
  rw [wcells_none] at hmk
  have t1 : decide ((n : Int) < 1) = false := by simp; omega
  have t2 : decide ((16384 : Int) < n) = false := by simp; omega
  go_enter Try.func14, Try.ntmps14
  go_wp2
  go_ret2
  exact ⟨rfl, ⟨new_at' _ _ _ (World.size_alloc _ _).symm, alloc_keep (new_at w _), h1, h2, by omega, fun _ _ => rfl⟩, ((Mod.refl _ w).alloc _).alloc _⟩
theorem len_any (b g n : Nat) (T : Nat → Bool) (w : World) (h : BitsAt w b g n T) :
    Calls Try.prog 32 #[.pointer (some ⟨b, 0, none⟩)] w fun e w' => e = .returned (.int .i64 n) ∧ w' = w := by
  have c1 : w.cell? ⟨b, 0, none⟩ = some (.int .i64 n) := (cell_of h.hb 0).trans rfl
  have H := Lib.hid h; clear h
  go_enter Try.func32, Try.ntmps32
  go_wp2_with fail
  go_ret
  exact ⟨rfl, rfl⟩

/-- so many of the first m bits are taken -/
def cnt (T : Nat → Bool) (m : Nat) : Nat := popc ((List.range m).map T)
theorem cnt_succ (T : Nat → Bool) (m : Nat) : cnt T (m + 1) = cnt T m + (T m).toNat := by
  simp [cnt, popc, List.range_succ]
theorem cnt_le (T : Nat → Bool) : ∀ m, cnt T m ≤ m
  | 0 => Nat.le_refl 0
  | m + 1 => by
    have := cnt_le T m
    rw [cnt_succ]
    have : (T m).toNat ≤ 1 := by cases T m <;> simp
    omega
theorem cnt_add (T : Nat → Bool) (m : Nat) : ∀ k, cnt T (m + k) = cnt T m + popc ((List.range k).map fun i => T (m + i))
  | 0 => by simp [popc]
  | k + 1 => by
    rw [← Nat.add_assoc, cnt_succ, cnt_add T m k]
    simp [popc, List.range_succ, Nat.add_assoc]
theorem cnt_out (T : Nat → Bool) (n : Nat) (h : ∀ i, n ≤ i → T i = false) : ∀ m, n ≤ m → cnt T m = cnt T n := by
  intro m hm
  obtain ⟨k, rfl⟩ := Nat.exists_eq_add_of_le hm
  induction k with
  | zero => rfl
  | succ k ih => rw [← Nat.add_assoc, cnt_succ, ih (by omega), h (n + k) (by omega)]; rfl

set_option maxHeartbeats 1000000 in
theorem free_any (b g n : Nat) (T : Nat → Bool) (w : World) (h : BitsAt w b g n T) :
    Calls Try.prog 20 #[.pointer (some ⟨b, 0, none⟩)] w fun e w' => e = .returned (.int .i64 (n - cnt T n : Nat)) ∧ w' = w := by
  have c1 : w.cell? ⟨b, 1, none⟩ = some (.slice (some ⟨g, 0, none⟩) ((n + 63) / 64) ((n + 63) / 64)) := (cell_of h.hb 1).trans rfl
  have hn1 := h.n1
  have hn2 := h.n2
  have t0 : decide (0 < n) = true := by simp; omega
  have hcell : ∀ j, j < (n + 63) / 64 → w.cell? ⟨g, j, none⟩ = some (.int .u64 (word T j : Int)) := fun j hj => by
    rw [cell_of h.hg, ← Array.getElem?_toList, List.toList_toArray, wcells_get _ _ _ hj]
  have HC := Lib.hid hcell; clear hcell
  have hcn := cnt_out T n h.out (64 * ((n + 63) / 64)) (by omega)
  have hle := cnt_le T n
  obtain ⟨k, hk⟩ : ∃ k, (n + 63) / 64 = k := ⟨_, rfl⟩
  rw [hk] at hcn c1 HC
  have hmono : ∀ j, j ≤ k → cnt T (64 * j) ≤ n := by
    intro j hj
    obtain ⟨d, hd⟩ := Nat.exists_eq_add_of_le (show 64 * j ≤ 64 * k from by omega)
    have := cnt_add T (64 * j) d
    rw [← hd] at this
    omega
  have HM := Lib.hid hmono; clear hmono
  have H := Lib.hid h; clear h
  go_enter Try.func20, Try.ntmps20
  go_wp2_with fail
  refine (len_any b g n T _ H.out).mono ?_
  rintro e w1 ⟨rfl, rfl⟩
  go_wp2_with fail
  go_loop [3, 15] (fun x i => ∃ j : Nat, j ≤ k ∧ i = .int .i64 j ∧ x = .int .i64 (n - cnt T (64 * j) : Nat)) (fun _ i => k - (intOf i).toNat)
  case atStart => exact ⟨0, Nat.zero_le _, rfl, rfl⟩
  case round =>
    obtain ⟨j, hj, rfl, rfl⟩ := hrel
    by_cases hlt : j < k
    · have c2 := HC.out j hlt
      have hs : cnt T (64 * (j + 1)) = cnt T (64 * j) + popc ((List.range 64).map fun i => T (64 * j + i)) := cnt_add T (64 * j) 64
      have hs1 := HM.out (j + 1) hlt
      have HS := Lib.hid hs; clear hs
      go_wp2_with fail
      refine (ones_any T j _).mono ?_
      rintro e w1 ⟨rfl, rfl⟩
      generalize popc ((List.range 64).map fun i => T (64 * j + i)) = y at *
      go_wp2
      go_round
      case rel => exact ⟨j + 1, hlt, by go_num, by have := HS.out; congr 1; unfold wrap64; omega⟩
      case measure => simp [intOf]; omega
    · obtain rfl : j = k := by omega
      go_wp2
      go_ret
      exact ⟨rfl, rfl⟩
end Go.Proofs.Ytfmlgleeojblkaa
