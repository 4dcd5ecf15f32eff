/- The document's Read, ReadQid. -/
import Derived.Test.YtklpopmjpgdjnaaGreatDoorQGa
import Derived.Test.YtklpopmjpgdjnaaGreatDoorQGc
set_option linter.unusedVariables false
set_option linter.unusedSimpArgs false
namespace Go.Proofs.YtklpopmjpgdjnaaGreatDoor
open Go.RowKit

set_option maxHeartbeats 400000 in
theorem read_any (t : ByteArray) (w : World) (hsz : t.size ≤ 8) :
    Calls Tryz.prog 32 #[.string t] w fun e w' => e = .returned (.int .u64 (leNat t.data.toList)) ∧ w = w' := by
  go_enter Tryz.func32, Tryz.ntmps32
  go_wp2
  go_loop [3, 4] (fun x i => ∃ k : Nat, k ≤ t.size ∧ i = .int .i64 ((k : Int) - 1) ∧ x = .int .u64 (leNat (t.data.toList.drop k))) (fun _ i => ((intOf i) + 1).toNat)
  case atStart => exact ⟨t.size, Nat.le_refl _, rfl, by rw [List.drop_eq_nil_of_le (by rw [Array.length_toList]; exact Nat.le_refl _)]; rfl⟩
  case round =>
    obtain ⟨k, hk, rfl, rfl⟩ := hrel
    by_cases hlt : 0 < k
    · obtain ⟨j, rfl⟩ : ∃ j, k = j + 1 := ⟨k - 1, by omega⟩
      rw [show (((j + 1 : Nat) : Int) - 1) = (j : Int) from by omega]
      have hj : j < t.size := by omega
      have HV : Hid _ := le_shift t j hj (by omega)
      go_wp2
      go_round
      case rel => exact ⟨j, by omega, by first | rfl | go_num, congrArg (Value.int .u64) HV.out⟩
      case measure => first | (simp [intOf]; done) | (simp [intOf]; omega)
    · obtain rfl : k = 0 := by omega
      go_wp2
      go_ret
      exact ⟨rfl, rfl⟩

set_option maxRecDepth 20000 in
set_option maxHeartbeats 1000000 in
theorem readQid_any (s : ByteArray) (w : World) (hs : s.size = 13) :
    Calls Tryz.prog 76 #[.string s] w fun e w' => e = .returned (.agg #[.int .u8 (leNat (s.extract 0 1).data.toList), .int .u32 (leNat (s.extract 1 5).data.toList), .int .u64 (leNat (s.extract 5 13).data.toList)]) ∧ Mod (fun _ => False) w w' := by
  obtain ⟨W, hW⟩ : ∃ W, w.alloc (.cells #[.int .u8 0, .int .u32 0, .int .u64 0] 28) = W := ⟨_, rfl⟩
  have hb : W.heap[w.heap.size]? = some (.cells #[.int .u8 0, .int .u32 0, .int .u64 0] 28 (0, 0)) := by subst hW; exact new_at _ _
  have hm : Mod (fun _ => False) w W := by subst hW; exact (Mod.refl _ w).alloc _
  have z1 : (s.extract 1 5).size ≤ 8 := by rw [ByteArray.size_extract]; omega
  have z2 : (s.extract 5 13).size ≤ 8 := by rw [ByteArray.size_extract]; omega
  have hn1 : leNat (s.extract 1 5).data.toList < 4294967296 := by
    have := leNat_lt (s.extract 1 5).data.toList
    rw [Array.length_toList, show (s.extract 1 5).data.size = 4 from by show (s.extract 1 5).size = 4; rw [ByteArray.size_extract]; omega] at this
    exact this
  have hcv : IntKind.u32.wrap (leNat (s.extract 1 5).data.toList : Int) = leNat (s.extract 1 5).data.toList := by rw [IntKind.wrap_u32]; omega
  have hi0 : leNat (s.extract 0 1).data.toList = (s[0]'(by omega)).toNat := by
    have h3 : (s.extract 0 1).data.toList = s.data.toList.take 1 := by simp [ByteArray.data_extract, Array.toList_extract]
    rw [h3, take_snoc s 0 (by omega)]
    simp [leNat]
    rfl
  obtain ⟨t1, ht1⟩ : ∃ x, s.extract 1 5 = x := ⟨_, rfl⟩
  obtain ⟨t2, ht2⟩ : ∃ x, s.extract 5 13 = x := ⟨_, rfl⟩
  rw [ht1] at z1 hcv hn1 ⊢
  rw [ht2] at z2 ⊢
  rw [hi0]
  go_enter Tryz.func76, Tryz.ntmps76
  have r0 : W.cell? ⟨w.heap.size, 0, none⟩ = some (.int .u8 0) := (cell_of hb 0).trans rfl
  have r1 : W.cell? ⟨w.heap.size, 1, none⟩ = some (.int .u32 0) := (cell_of hb 1).trans rfl
  have r2 : W.cell? ⟨w.heap.size, 2, none⟩ = some (.int .u64 0) := (cell_of hb 2).trans rfl
  have rf0 : W.frozen? ⟨w.heap.size, 0, none⟩ = false := free_of hb 0
  have rf1 : W.frozen? ⟨w.heap.size, 1, none⟩ = false := free_of hb 1
  have rf2 : W.frozen? ⟨w.heap.size, 2, none⟩ = false := free_of hb 2
  have s1 : (0 : Int) ≤ 1 := by omega
  go_wp2
  refine wp_onlyN ?_
  go_region_held_law (fun _ => True) (first | trivial) (first
    | (go_at_call 32; refine (read_any _ _ (by assumption)).mono ?_; rintro e w4 ⟨rfl, rfl⟩))
  all_goals refine onlyN_out ?_
  all_goals
    go_wp2
    obtain ⟨W6, hW6⟩ : ∃ W6, (((W.setCell ⟨w.heap.size, 0, none⟩ (.int .u8 (s[0]'(by omega)).toNat)).setCell ⟨w.heap.size, 1, none⟩ (.int .u32 (leNat t1.data.toList))).setCell ⟨w.heap.size, 2, none⟩ (.int .u64 (leNat t2.data.toList))) = W6 := ⟨_, rfl⟩
    have h6 : W6.heap[w.heap.size]? = some (.cells #[.int .u8 (s[0]'(by omega)).toNat, .int .u32 (leNat t1.data.toList), .int .u64 (leNat t2.data.toList)] 28 (0, 0)) := by subst hW6; exact heap_set (heap_set (heap_set hb 0 _) 1 _) 2 _
    have hm6 : Mod (· = w.heap.size) W W6 := by subst hW6; exact ((Mod.set1 _ _ 0 _).trans (Mod.set1 _ _ 1 _)).trans (Mod.set1 _ _ 2 _)
    rw [hW6]
    have q0 : W6.cell? ⟨w.heap.size, 0, none⟩ = some (.int .u8 (s[0]'(by omega)).toNat) := (cell_of h6 0).trans rfl
    have q1 : W6.cell? ⟨w.heap.size, 1, none⟩ = some (.int .u32 (leNat t1.data.toList)) := (cell_of h6 1).trans rfl
    have q2 : W6.cell? ⟨w.heap.size, 2, none⟩ = some (.int .u64 (leNat t2.data.toList)) := (cell_of h6 2).trans rfl
    refine bodyPost_ret (v := .agg #[.int .u8 (s[0]'(by omega)).toNat, .int .u32 (leNat t1.data.toList), .int .u64 (leNat t2.data.toList)]) ?_ rfl ⟨rfl, hm.trans' hm6.drew (fun j hj e => by omega)⟩
    simp [results, Tryz.f76, go_sem, q0, q1, q2]
end Go.Proofs.YtklpopmjpgdjnaaGreatDoor
