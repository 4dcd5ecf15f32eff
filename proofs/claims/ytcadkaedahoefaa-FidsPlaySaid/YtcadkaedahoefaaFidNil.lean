/- What no table and no tags answer. -/
import Derived.Test.YtcadkaedahoefaaTabOn
namespace Go.Proofs.Ytcadkaedahoefaa
open Go.RowKit

set_option maxHeartbeats 1000000 in
theorem tbegin_nil (w : World) (tag : Nat) : Calls Try.prog 9 #[.pointer none, .int .u16 tag] w fun e w' => e = .returned (.int .i64 1) ∧ Mod (fun _ => False) w w' := by
  go_enter Try.func9, Try.ntmps9
  go_wp2
  first
    | (go_ret; exact ⟨rfl, Mod.refl _ _⟩)
    | (go_ret; exact ⟨rfl, (Mod.refl _ _).alloc _⟩)
    | (go_ret2; exact ⟨rfl, Mod.refl _ _⟩)
    | (go_ret2; exact ⟨rfl, (Mod.refl _ _).alloc _⟩)
set_option maxHeartbeats 1000000 in
theorem tflush_nil (w : World) (tag old : Nat) : Calls Try.prog 10 #[.pointer none, .int .u16 tag, .int .u16 old] w fun e w' => e = .returned (.tuple #[.bool false, .int .i64 1]) ∧ Mod (fun _ => False) w w' := by
  go_enter Try.func10, Try.ntmps10
  go_wp2
  first
    | (go_ret; exact ⟨rfl, Mod.refl _ _⟩)
    | (go_ret; exact ⟨rfl, (Mod.refl _ _).alloc _⟩)
    | (go_ret2; exact ⟨rfl, Mod.refl _ _⟩)
    | (go_ret2; exact ⟨rfl, (Mod.refl _ _).alloc _⟩)
set_option maxHeartbeats 1000000 in
theorem tend_nil (w : World) (tag : Nat) : Calls Try.prog 11 #[.pointer none, .int .u16 tag] w fun e w' => e = .returned (.tuple #[.slice none 0 0, .int .i64 1]) ∧ Mod (fun _ => False) w w' := by
  go_enter Try.func11, Try.ntmps11
  go_wp2
  first
    | (go_ret; exact ⟨rfl, Mod.refl _ _⟩)
    | (go_ret; exact ⟨rfl, (Mod.refl _ _).alloc _⟩)
    | (go_ret2; exact ⟨rfl, Mod.refl _ _⟩)
    | (go_ret2; exact ⟨rfl, (Mod.refl _ _).alloc _⟩)
set_option maxHeartbeats 1000000 in
theorem topen_nil (w : World)  : Calls Try.prog 16 #[.pointer none] w fun e w' => e = .returned (.slice none 0 0) ∧ Mod (fun _ => False) w w' := by
  go_enter Try.func16, Try.ntmps16
  go_wp2
  first
    | (go_ret; exact ⟨rfl, Mod.refl _ _⟩)
    | (go_ret; exact ⟨rfl, (Mod.refl _ _).alloc _⟩)
    | (go_ret2; exact ⟨rfl, Mod.refl _ _⟩)
    | (go_ret2; exact ⟨rfl, (Mod.refl _ _).alloc _⟩)
set_option maxHeartbeats 1000000 in
theorem flen_nil (w : World)  : Calls Try.prog 27 #[.pointer none] w fun e w' => e = .returned (.int .i64 0) ∧ Mod (fun _ => False) w w' := by
  go_enter Try.func27, Try.ntmps27
  go_wp2
  first
    | (go_ret; exact ⟨rfl, Mod.refl _ _⟩)
    | (go_ret; exact ⟨rfl, (Mod.refl _ _).alloc _⟩)
    | (go_ret2; exact ⟨rfl, Mod.refl _ _⟩)
    | (go_ret2; exact ⟨rfl, (Mod.refl _ _).alloc _⟩)
set_option maxHeartbeats 1000000 in
theorem fall_nil (w : World)  : Calls Try.prog 26 #[.pointer none] w fun e w' => e = .returned (.slice none 0 0) ∧ Mod (fun _ => False) w w' := by
  go_enter Try.func26, Try.ntmps26
  go_wp2
  first
    | (go_ret; exact ⟨rfl, Mod.refl _ _⟩)
    | (go_ret; exact ⟨rfl, (Mod.refl _ _).alloc _⟩)
    | (go_ret2; exact ⟨rfl, Mod.refl _ _⟩)
    | (go_ret2; exact ⟨rfl, (Mod.refl _ _).alloc _⟩)
set_option maxHeartbeats 1000000 in
theorem fadd_nil (w : World) (x : Nat) : Calls Try.prog 18 #[.pointer none, .int .u32 x, .agg #[.int .u64 0, .string { data := #[] }, .bool false, .int .u8 0, .int .u64 0]] w fun e w' => e = .returned (.int .i64 1) ∧ Mod (fun _ => False) w w' := by
  go_enter Try.func18, Try.ntmps18
  go_wp2
  first
    | (go_ret; exact ⟨rfl, Mod.refl _ _⟩)
    | (go_ret; exact ⟨rfl, (Mod.refl _ _).alloc _⟩)
    | (go_ret2; exact ⟨rfl, Mod.refl _ _⟩)
    | (go_ret2; exact ⟨rfl, (Mod.refl _ _).alloc _⟩)
theorem fon_nil (w : World) (p : Nat) : Calls Try.prog 28 #[.pointer none, .int .u64 p] w fun e w' => e = .returned (.int .i64 0) ∧ Mod (fun _ => False) w w' := by
  have h := fall_nil
  go_enter Try.func28, Try.ntmps28
  go_wp2_with fail
  refine (h _).mono ?_
  rintro e w1 ⟨rfl, m1⟩
  have HM := Lib.hid m1
  clear m1
  go_wp2
  go_loopw [5, 11] (fun c i wr => c = .int .i64 0 ∧ i = .int .i64 0 ∧ Hid (Mod (fun _ => False) w wr)) (fun _ _ _ => 0)
  case atStart => exact ⟨rfl, rfl, HM⟩
  case round =>
    obtain ⟨rfl, rfl, HM2⟩ := hrel
    go_wp2
    go_ret
    exact ⟨rfl, HM2.out⟩
def ZF : Value := .agg #[.int .u64 0, .string { data := #[] }, .bool false, .int .u8 0, .int .u64 0]
set_option maxHeartbeats 1000000 in
theorem fget_nil (w : World) (x : Nat) : Calls Try.prog 20 #[.pointer none, .int .u32 x] w fun e w' => e = .returned (.tuple #[ZF, .int .i64 1]) ∧ Mod (fun _ => False) w w' := by
  go_enter Try.func20, Try.ntmps20
  go_wp2
  obtain ⟨Wf, hWf⟩ : ∃ Wf, (w.alloc (.cells #[.int .u64 0, .string { data := #[] }, .bool false, .int .u8 0, .int .u64 0] 59)) = Wf := ⟨_, rfl⟩
  rw [hWf]
  have hz : Wf.heap[w.heap.size]? = some (.cells #[.int .u64 0, .string { data := #[] }, .bool false, .int .u8 0, .int .u64 0] 59 (0, 0)) := by rw [← hWf]; exact new_at w _
  have mf : Mod (fun _ => False) w Wf := by rw [← hWf]; exact (Mod.refl _ _).alloc _
  have z0 : (Wf).cell? ⟨w.heap.size, 0, none⟩ = some (.int .u64 0) := (cell_of (hz) 0).trans rfl
  have z1 : (Wf).cell? ⟨w.heap.size, 1, none⟩ = some (.string { data := #[] }) := (cell_of (hz) 1).trans rfl
  have z2 : (Wf).cell? ⟨w.heap.size, 2, none⟩ = some (.bool false) := (cell_of (hz) 2).trans rfl
  have z3 : (Wf).cell? ⟨w.heap.size, 3, none⟩ = some (.int .u8 0) := (cell_of (hz) 3).trans rfl
  have z4 : (Wf).cell? ⟨w.heap.size, 4, none⟩ = some (.int .u64 0) := (cell_of (hz) 4).trans rfl
  refine bodyPost_ret (v := .tuple #[ZF, .int .i64 1]) ?_ rfl ⟨rfl, mf⟩
  simp [results, Try.f20, go_sem, z0, z1, z2, z3, z4, ZF]
set_option maxHeartbeats 1000000 in
theorem fset_nil (w : World) (x : Nat) : Calls Try.prog 22 #[.pointer none, .int .u32 x, ZF] w fun e w' => e = .returned (.int .i64 1) ∧ Mod (fun _ => False) w w' := by
  have h := fun U => fget_nil U x
  unfold ZF at *
  go_enter Try.func22, Try.ntmps22
  go_wp2_with fail
  refine (h _).mono ?_
  rintro e w1 ⟨rfl, m1⟩
  have HM := Lib.hid (((Mod.refl (fun _ => False) w).alloc _).trans m1)
  clear m1
  go_wp2
  go_ret
  exact ⟨rfl, HM.out.alloc _⟩
set_option maxHeartbeats 1000000 in
theorem fdrop_nil (w : World) (x : Nat) : Calls Try.prog 24 #[.pointer none, .int .u32 x] w fun e w' => e = .returned (.tuple #[ZF, .int .i64 1]) ∧ Mod (fun _ => False) w w' := by
  have h := fun U => fget_nil U x
  unfold ZF at *
  obtain ⟨W1, hW1⟩ : ∃ W1, w.alloc (.cells #[.int .u64 0, .string { data := #[] }, .bool false, .int .u8 0, .int .u64 0] 59) = W1 := ⟨_, rfl⟩
  have hz1 : W1.heap[w.heap.size]? = some (.cells #[.int .u64 0, .string { data := #[] }, .bool false, .int .u8 0, .int .u64 0] 59 (0, 0)) := by subst hW1; exact new_at _ _
  have m1 : Mod (fun _ => False) w W1 := by subst hW1; exact (Mod.refl _ _).alloc _
  go_enter Try.func24, Try.ntmps24
  go_wp2_with fail
  refine (h _).mono ?_
  rintro e w2 ⟨rfl, m2⟩
  have hz2 := (m2.block _ (lt_of hz1) (fun x => x)).trans hz1
  have HM2 := Lib.hid (m1.trans m2)
  have HZ2 := Lib.hid hz2
  have hlt : w.heap.size < w2.heap.size := lt_of hz2
  have r0 : (w2).cell? ⟨w.heap.size, 0, none⟩ = some (.int .u64 0) := (cell_of (hz2) 0).trans rfl
  have rf0 : (w2).frozen? ⟨w.heap.size, 0, none⟩ = false := free_of (hz2) 0
  have r1 : (w2).cell? ⟨w.heap.size, 1, none⟩ = some (.string { data := #[] }) := (cell_of (hz2) 1).trans rfl
  have rf1 : (w2).frozen? ⟨w.heap.size, 1, none⟩ = false := free_of (hz2) 1
  have r2 : (w2).cell? ⟨w.heap.size, 2, none⟩ = some (.bool false) := (cell_of (hz2) 2).trans rfl
  have rf2 : (w2).frozen? ⟨w.heap.size, 2, none⟩ = false := free_of (hz2) 2
  have r3 : (w2).cell? ⟨w.heap.size, 3, none⟩ = some (.int .u8 0) := (cell_of (hz2) 3).trans rfl
  have rf3 : (w2).frozen? ⟨w.heap.size, 3, none⟩ = false := free_of (hz2) 3
  have r4 : (w2).cell? ⟨w.heap.size, 4, none⟩ = some (.int .u64 0) := (cell_of (hz2) 4).trans rfl
  have rf4 : (w2).frozen? ⟨w.heap.size, 4, none⟩ = false := free_of (hz2) 4
  clear hz1 m1 m2 hz2 hW1
  go_wp2
  have h6 := alloc_keep (o := .cells #[.int .u64 0, .string { data := #[] }, .bool false, .int .u8 0, .int .u64 0] 59) (set5 HZ2.out (.int .u64 0) (.string { data := #[] }) (.bool false) (.int .u8 0) (.int .u64 0))
  have z0 := (cell_of h6 0).trans rfl
  have z1 := (cell_of h6 1).trans rfl
  have z2 := (cell_of h6 2).trans rfl
  have z3 := (cell_of h6 3).trans rfl
  have z4 := (cell_of h6 4).trans rfl
  refine bodyPost_ret (v := .tuple #[.agg #[.int .u64 0, .string { data := #[] }, .bool false, .int .u8 0, .int .u64 0], .int .i64 1]) ?_ rfl ⟨rfl, (HM2.out.trans' (mod5 _ _ _ _ _ _ _) (fun j hj e => by omega)).alloc _⟩
  simp [results, Try.f24, go_sem, z0, z1, z2, z3, z4]
end Go.Proofs.Ytcadkaedahoefaa
