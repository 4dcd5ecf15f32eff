/- The law's turned, and the library's Repeat of one letter. -/
import Derived.Test.YtklpopmjpgdjnaaGreatDoorQPShape
import Derived.Test.YtklpopmjpgdjnaaGreatDoorQLawLong
import Derived.Test.YtklpopmjpgdjnaaGreatDoorShelf
set_option linter.unusedVariables false
set_option linter.unusedSimpArgs false
namespace Go.Proofs.YtklpopmjpgdjnaaGreatDoor
open Go.RowKit

theorem rep_repeat (c : UInt8) (n : Nat) : (⟨(Lib.repeatL [c] n).toArray⟩ : ByteArray) = rep c n := by
  have := Lib.repeatL_replicate c 1 n
  rw [Nat.mul_one] at this
  rw [show ([c] : List UInt8) = List.replicate 1 c from rfl, this]
  rfl
set_option maxRecDepth 100000 in
theorem repeat_any (c : UInt8) (n : Nat) (w : World) (hn : n ≤ 262144) :
    Calls Tryz.prog 47 #[.string ⟨#[c]⟩, .int .i64 n] w fun e w' => e = .returned (.string (rep c n)) ∧ Mod (fun _ => False) w w' := by
  by_cases h2 : 2 ≤ n
  · refine (Tryz.strings_Repeat_main ⟨#[c]⟩ n w h2 (by omega) (by show 1 * n ≤ _; omega) (by show 0 < 1; decide)).mono fun e w' h => ⟨?_, Mod.of_below h.2⟩
    rw [h.1]
    show Ending.returned (.string ⟨(Lib.repeatL [c] n).toArray⟩) = _
    rw [rep_repeat]
  · by_cases h0 : n = 0
    · subst h0
      go_enter Tryz.func47, Tryz.ntmps47
      go_wp2
      go_ret
      exact ⟨rfl, Mod.refl _ _⟩
    · obtain rfl : n = 1 := by omega
      go_enter Tryz.func47, Tryz.ntmps47
      go_wp2
      go_ret
      exact ⟨rfl, Mod.refl _ _⟩
def half (b : UInt8) (j n : Nat) : List UInt8 := List.replicate j b ++ List.replicate (n - j) 0
theorem half_set (b : UInt8) {j n : Nat} (h : j < n) : (bc (half b j n)).toArray.setIfInBounds j (.int .u8 (b.toNat : Int)) = (bc (half b (j + 1) n)).toArray := by
  unfold half bc
  rw [show n - j = (n - (j + 1)) + 1 by omega, List.replicate_succ]
  apply Array.toList_inj.1
  rw [Array.toList_setIfInBounds]
  simp only [List.toList_toArray, List.map_append, List.map_cons, List.map_replicate]
  rw [List.set_append_right _ _ (by simp), List.length_replicate, Nat.sub_self, List.set_cons_zero, List.replicate_succ', List.append_assoc]
  rfl
set_option maxHeartbeats 1000000 in
set_option maxRecDepth 100000 in
theorem turned_any (s : ByteArray) (b : UInt8) (w : World) (hs : s.size ≤ 262144) :
    Calls Tryz.prog 21 #[.string s, .int .u8 b.toNat] w fun e w' => e = .returned (.string (rep b s.size)) ∧ Mod (fun _ => False) w w' := by
  obtain ⟨n, hn⟩ : ∃ n, s.size = n := ⟨_, rfl⟩
  have hz : (List.replicate n (Value.int .u8 0)) = bc (half b 0 n) := by simp [half, bc]
  have hmk := make_row (P := Tryz.prog) 68 5 (.int .u8 0) 1 n Tryz.underlying68 info_byte rfl (by omega) (by unfold maxLen; omega)
  rw [hz] at hmk
  obtain ⟨W, hW⟩ : ∃ W, w.alloc (.cells (bc (half b 0 n)).toArray 5) = W := ⟨_, rfl⟩
  have hb : W.heap[w.heap.size]? = some (.cells (bc (half b 0 n)).toArray 5 (0, 0)) := by subst hW; exact new_at _ _
  have m0 : Mod (fun _ => False) w W := by subst hW; exact (Mod.refl _ w).alloc _
  have HB := Lib.hid hb
  have M0 := Lib.hid m0
  clear hb m0
  go_enter Tryz.func21, Tryz.ntmps21
  go_wp2
  clear hmk hW hz
  go_loopw [6] (fun i wr => ∃ j : Nat, j ≤ n ∧ i = .int .i64 j ∧ Hid (wr.heap[w.heap.size]? = some (.cells (bc (half b j n)).toArray 5 (0, 0))) ∧ Hid (Mod (fun _ => False) w wr)) (fun i _ => n - (intOf i).toNat)
  case atStart => exact ⟨0, Nat.zero_le _, rfl, HB, M0⟩
  case round =>
    clear HB M0
    obtain ⟨j, hj, rfl, HB, HM⟩ := hrel
    have hlen : (half b j n).length = n := by unfold half; rw [List.length_append, List.length_replicate, List.length_replicate]; omega
    by_cases hjl : j < n
    · have t1 : decide ((j : Int) < (n : Int)) = true := by simp; omega
      have j1 : (0 : Int) ≤ (j : Int) := by omega
      have j2 : (j : Int) < (n : Int) := by omega
      have hlb : j < (bc (half b j n)).toArray.size := by rw [List.size_toArray, bc_length, hlen]; exact hjl
      have x0 : wr.cell? ⟨w.heap.size, j, none⟩ = some (bc (half b j n)).toArray[j] := (cell_of HB.out j).trans (Array.getElem?_eq_getElem hlb)
      have xf : wr.frozen? ⟨w.heap.size, j, none⟩ = false := free_of HB.out j
      obtain ⟨W2, hW2⟩ : ∃ W2, wr.setCell ⟨w.heap.size, j, none⟩ (.int .u8 b.toNat) = W2 := ⟨_, rfl⟩
      have HB2 : Hid (W2.heap[w.heap.size]? = some (.cells (bc (half b (j + 1) n)).toArray 5 (0, 0))) := by
        rw [← hW2, ← half_set b hjl]
        exact heap_set HB.out j _
      have HM2 : Hid (Mod (fun _ => False) w W2) := by
        rw [← hW2]
        exact HM.out.trans' (Mod.set1 wr w.heap.size j _) fun k hk e => by omega
      generalize (bc (half b j n)).toArray[j] = y at *
      go_wp2
      go_roundw
      case rel => exact ⟨j + 1, hjl, by go_num, HB2, HM2⟩
      case measure => simp [intOf]; omega
    · obtain rfl : j = n := by omega
      have t1 : decide ((j : Int) < (j : Int)) = false := by simp
      have hh : half b j j = List.replicate j b := by simp [half]
      have hcv := conv_string (P := Tryz.prog) wr 68 9 5 w.heap.size 0 j (half b j j) j hlen.symm Tryz.underlying68 Tryz.underlying5 Tryz.underlying9
        (fun k hk => by rw [Nat.zero_add, cell_of HB.out, List.getElem?_toArray]; simp [bc, hk])
      rw [hh] at hcv
      go_wp2
      go_ret
      exact ⟨by rw [hn]; rfl, HM.out⟩
end Go.Proofs.YtklpopmjpgdjnaaGreatDoor
