/- The package's tree that is not there: each call answers ErrNil, or nothing.
   The law ModelNone, walked. -/
import Derived.Test.YtkcnbbjmkkaolaaGreatDoorQG07
import Derived.Test.YtkcnbbjmkkaolaaGreatDoorQG05
import Derived.Test.YtkcnbbjmkkaolaaGreatDoorQG15
import Derived.Test.YtkcnbbjmkkaolaaGreatDoorQG17
import Derived.Test.YtkcnbbjmkkaolaaGreatDoorQG00
set_option linter.unusedVariables false
set_option linter.unusedSimpArgs false
namespace Go.Proofs.YtkcnbbjmkkaolaaGreatDoor
open Go.RowKit

set_option maxRecDepth 100000 in
theorem nil_stat (p : Nat) (w : World) : Calls Tryz.prog 26 #[.pointer none, .int .u64 p] w fun e w' => e = .returned (.tuple #[.agg St.none.cells.toArray, .int .i64 1]) ∧ Mod (fun _ => False) w w' := by
  obtain ⟨V, hV⟩ : ∃ V, w.alloc (.cells #[.int .u16 0, .int .u32 0, .int .u8 0, .int .u32 0, .int .u64 0, .int .u32 0, .int .u32 0, .int .u32 0, .int .u64 0, .string { data := #[] }, .string { data := #[] }, .string { data := #[] }, .string { data := #[] }] 37) = V := ⟨_, rfl⟩
  have hv : V.heap[w.heap.size]? = some (stO St.none) := by subst hV; exact new_at _ _
  have m0 : Mod (fun _ => False) w V := by subst hV; exact (Mod.refl _ w).alloc _
  have hG := pget_nil p V
  have HV := Lib.hid hv
  have M0 := Lib.hid m0
  clear hv m0
  go_enter Tryz.func26, Tryz.ntmps26
  go_wp2_with fail
  refine hG.mono ?_
  rintro e w1 ⟨rfl, rfl⟩
  clear hG hV
  go_upto_region 3 with (fail)
  refine wp_region_lit ?_
  iterate 2
    refine wpList_plain rfl fun K hK => ?_
    go_simp
    refine hK _ _ ?_
    clear hK K
  refine wpl_store_row rfl 37 (.tmp 4) (.tmp 16) rfl rfl w.heap.size St.none.cells rfl rfl 37 _ HV.out rfl (st_one _) (by kernel_rfl) ?_
  intro V9 hv9 mv9
  refine wpList_plain rfl fun K hK => ?_
  go_simp
  refine hK _ _ ?_
  clear hK K
  refine wpList_nil ?_
  have MV : Hid (Mod (fun _ => False) w V9) := M0.out.trans' mv9 fun k hk e => by omega
  go_wp2
  exact bodyPost_ret (results_cell2 rfl _ _ V9 w.heap.size St.none.cells _ rfl (st_rng hv9) Tryz.underlying37 rfl (by kernel_rfl)) rfl ⟨rfl, MV.out⟩
set_option maxRecDepth 100000 in
theorem nil_parent (p : Nat) (w : World) : Calls Tryz.prog 27 #[.pointer none, .int .u64 p] w fun e w' => e = .returned (.tuple #[.int .u64 0, .int .i64 1]) ∧ w = w' := by
  have hG := pget_nil p w
  go_enter Tryz.func27, Tryz.ntmps27
  go_wp2_with fail
  refine hG.mono ?_
  rintro e w1 ⟨rfl, rfl⟩
  go_wp2
  go_ret2
  exact ⟨rfl, rfl⟩
set_option maxRecDepth 100000 in
theorem nil_read (p off count : Nat) (w : World) : Calls Tryz.prog 30 #[.pointer none, .int .u64 p, .int .u64 off, .int .u32 count] w fun e w' => e = .returned (.tuple #[.string ⟨#[]⟩, .int .i64 1]) ∧ w = w' := by
  have hG := pget_nil p w
  go_enter Tryz.func30, Tryz.ntmps30
  go_wp2_with fail
  refine hG.mono ?_
  rintro e w1 ⟨rfl, rfl⟩
  go_wp2
  go_ret2
  exact ⟨rfl, rfl⟩
set_option maxRecDepth 100000 in
theorem nil_list (p : Nat) (w : World) : Calls Tryz.prog 31 #[.pointer none, .int .u64 p] w fun e w' => e = .returned (.tuple #[.slice none 0 0, .int .i64 1]) ∧ w = w' := by
  have hG := pget_nil p w
  go_enter Tryz.func31, Tryz.ntmps31
  go_wp2_with fail
  refine hG.mono ?_
  rintro e w1 ⟨rfl, rfl⟩
  go_wp2
  go_ret2
  exact ⟨rfl, rfl⟩
set_option maxRecDepth 100000 in
theorem nil_write (p off : Nat) (d who : ByteArray) (now : Nat) (w : World) : Calls Tryz.prog 23 #[.pointer none, .int .u64 p, .int .u64 off, .string d, .string who, .int .u32 now] w fun e w' => e = .returned (.tuple #[.int .u32 0, .int .i64 1]) ∧ w = w' := by
  have hG := pget_nil p w
  go_enter Tryz.func23, Tryz.ntmps23
  go_wp2_with fail
  refine hG.mono ?_
  rintro e w1 ⟨rfl, rfl⟩
  go_wp2
  go_ret2
  exact ⟨rfl, rfl⟩
set_option maxRecDepth 100000 in
theorem nil_all (w : World) : Calls Tryz.prog 18 #[.pointer none] w fun e w' => e = .returned (.slice none 0 0) ∧ w = w' := by
  go_enter Tryz.func18, Tryz.ntmps18
  go_wp2
  go_ret
  exact ⟨rfl, rfl⟩
set_option maxRecDepth 100000 in
theorem nil_copy (w : World) : Calls Tryz.prog 24 #[.pointer none] w fun e w' => e = .returned (.pointer none) ∧ w = w' := by
  go_enter Tryz.func24, Tryz.ntmps24
  go_wp2
  go_ret
  exact ⟨rfl, rfl⟩
set_option maxHeartbeats 1000000 in
set_option maxRecDepth 100000 in
theorem nil_walk (p : Nat) (name who : ByteArray) (w : World) : Calls Tryz.prog 28 #[.pointer none, .int .u64 p, .string name, .string who] w fun e w' => e = .returned (.tuple #[.agg (qiC Qi.zero).toArray, .int .i64 1]) ∧ Mod (fun _ => False) w w' := by
  obtain ⟨W0, hW0⟩ : ∃ W0, (((w.alloc (.cells #[.pointer none] 26)).alloc (.cells #[.string name] 9)).alloc (.cells #[.string who] 9)).alloc (.cells #[.int .u8 0, .int .u32 0, .int .u64 0] 35) = W0 := ⟨_, rfl⟩
  have hsz : W0.heap.size = w.heap.size + 4 := by subst hW0; simp
  have hb0 : BoxA W0 w.heap.size (.pointer none) 26 := by subst hW0; exact alloc_keep (alloc_keep (alloc_keep (new_at _ _)))
  have hbz : W0.heap[w.heap.size + 1 + 1 + 1]? = some (qiO Qi.zero) := by subst hW0; exact new_at' _ _ _ (by simp)
  have M0 : Mod (fun _ => False) w W0 := by subst hW0; exact (((((Mod.refl _ w).alloc _).alloc _).alloc _).alloc _)
  have c0 : W0.cell? ⟨w.heap.size, 0, none⟩ = some (.pointer none) := hb0.cell
  obtain ⟨W1, hW1⟩ : ∃ W1, W0.alloc (.cells #[.pointer none] 75) = W1 := ⟨_, rfl⟩
  have hn1 : W1.heap[w.heap.size + 4]? = some (.cells #[.pointer none] 75 (0, 0)) := by subst hW1; exact new_at' _ _ _ hsz.symm
  have q1 : W1.cell? ⟨w.heap.size + 4, 0, none⟩ = some (.pointer none) := (cell_of hn1 0).trans rfl
  have q2 : W1.frozen? ⟨w.heap.size + 4, 0, none⟩ = false := free_of hn1 0
  have q3 : W1.setCell ⟨w.heap.size + 4, 0, none⟩ (.pointer none) = W1 := setCell_idR hn1 rfl
  have HZ : Hid (W1.heap[w.heap.size + 1 + 1 + 1]? = some (qiO Qi.zero)) := by subst hW1; exact alloc_keep hbz
  have M1 : Hid (Mod (fun _ => False) w W1) := by subst hW1; exact M0.alloc _
  have hG := pget_nil p W0
  clear hn1 hbz hb0 M0
  go_enter Tryz.func28, Tryz.ntmps28
  go_wp2_with fail
  clear hW0
  refine hG.mono ?_
  rintro e w1 ⟨rfl, rfl⟩
  go_upto_region 3 with (fail)
  clear hW1
  refine wp_region_lit ?_
  iterate 2
    refine wpList_plain rfl fun K hK => ?_
    go_simp
    refine hK _ _ ?_
    clear hK K
  refine wpl_store_row rfl 35 (.tmp 8) (.tmp 21) rfl rfl (w.heap.size + 1 + 1 + 1) (qiC Qi.zero) rfl rfl 35 _ HZ.out rfl (qi_one _) (by kernel_rfl) ?_
  intro V9 hv9 mv9
  refine wpList_plain rfl fun K hK => ?_
  go_simp
  refine hK _ _ ?_
  clear hK K
  refine wpList_nil ?_
  have MV : Hid (Mod (fun _ => False) w V9) := M1.out.trans' mv9 fun k hk e => by omega
  go_wp2
  exact bodyPost_ret (results_cell2 rfl _ _ V9 (w.heap.size + 1 + 1 + 1) (qiC Qi.zero) _ rfl (qi_rng hv9) Tryz.underlying35 rfl (by kernel_rfl)) rfl ⟨rfl, MV.out⟩
set_option maxHeartbeats 1000000 in
set_option maxRecDepth 100000 in
theorem nil_open (p m : Nat) (who : ByteArray) (now : Nat) (w : World) : Calls Tryz.prog 29 #[.pointer none, .int .u64 p, .int .u8 m, .string who, .int .u32 now] w fun e w' => e = .returned (.tuple #[.agg (qiC Qi.zero).toArray, .int .i64 1]) ∧ Mod (fun _ => False) w w' := by
  obtain ⟨W0, hW0⟩ : ∃ W0, (((w.alloc (.cells #[.pointer none] 26)).alloc (.cells #[.int .u8 m] 5)).alloc (.cells #[.string who] 9)).alloc (.cells #[.int .u8 0, .int .u32 0, .int .u64 0] 35) = W0 := ⟨_, rfl⟩
  have hsz : W0.heap.size = w.heap.size + 4 := by subst hW0; simp
  have hb0 : BoxA W0 w.heap.size (.pointer none) 26 := by subst hW0; exact alloc_keep (alloc_keep (alloc_keep (new_at _ _)))
  have hbz : W0.heap[w.heap.size + 1 + 1 + 1]? = some (qiO Qi.zero) := by subst hW0; exact new_at' _ _ _ (by simp)
  have M0 : Mod (fun _ => False) w W0 := by subst hW0; exact (((((Mod.refl _ w).alloc _).alloc _).alloc _).alloc _)
  have c0 : W0.cell? ⟨w.heap.size, 0, none⟩ = some (.pointer none) := hb0.cell
  obtain ⟨W1, hW1⟩ : ∃ W1, W0.alloc (.cells #[.pointer none] 75) = W1 := ⟨_, rfl⟩
  have hn1 : W1.heap[w.heap.size + 4]? = some (.cells #[.pointer none] 75 (0, 0)) := by subst hW1; exact new_at' _ _ _ hsz.symm
  have q1 : W1.cell? ⟨w.heap.size + 4, 0, none⟩ = some (.pointer none) := (cell_of hn1 0).trans rfl
  have q2 : W1.frozen? ⟨w.heap.size + 4, 0, none⟩ = false := free_of hn1 0
  have q3 : W1.setCell ⟨w.heap.size + 4, 0, none⟩ (.pointer none) = W1 := setCell_idR hn1 rfl
  have HZ : Hid (W1.heap[w.heap.size + 1 + 1 + 1]? = some (qiO Qi.zero)) := by subst hW1; exact alloc_keep hbz
  have M1 : Hid (Mod (fun _ => False) w W1) := by subst hW1; exact M0.alloc _
  have hG := pget_nil p W0
  clear hn1 hbz hb0 M0
  go_enter Tryz.func29, Tryz.ntmps29
  go_wp2_with fail
  clear hW0
  refine hG.mono ?_
  rintro e w1 ⟨rfl, rfl⟩
  go_upto_region 3 with (fail)
  clear hW1
  refine wp_region_lit ?_
  iterate 2
    refine wpList_plain rfl fun K hK => ?_
    go_simp
    refine hK _ _ ?_
    clear hK K
  refine wpl_store_row rfl 35 (.tmp 10) (.tmp 24) rfl rfl (w.heap.size + 1 + 1 + 1) (qiC Qi.zero) rfl rfl 35 _ HZ.out rfl (qi_one _) (by kernel_rfl) ?_
  intro V9 hv9 mv9
  refine wpList_plain rfl fun K hK => ?_
  go_simp
  refine hK _ _ ?_
  clear hK K
  refine wpList_nil ?_
  have MV : Hid (Mod (fun _ => False) w V9) := M1.out.trans' mv9 fun k hk e => by omega
  go_wp2
  exact bodyPost_ret (results_cell2 rfl _ _ V9 (w.heap.size + 1 + 1 + 1) (qiC Qi.zero) _ rfl (qi_rng hv9) Tryz.underlying35 rfl (by kernel_rfl)) rfl ⟨rfl, MV.out⟩
set_option maxHeartbeats 1000000 in
set_option maxRecDepth 100000 in
theorem nil_create (p : Nat) (name : ByteArray) (perm m : Nat) (who : ByteArray) (now : Nat) (w : World) : Calls Tryz.prog 22 #[.pointer none, .int .u64 p, .string name, .int .u32 perm, .int .u8 m, .string who, .int .u32 now] w fun e w' => e = .returned (.tuple #[.agg (qiC Qi.zero).toArray, .int .i64 1]) ∧ Mod (fun _ => False) w w' := by
  obtain ⟨W0, hW0⟩ : ∃ W0, (((((w.alloc (.cells #[.pointer none] 26)).alloc (.cells #[.string name] 9)).alloc (.cells #[.int .u32 perm] 22)).alloc (.cells #[.int .u8 m] 5)).alloc (.cells #[.string who] 9)).alloc (.cells #[.int .u8 0, .int .u32 0, .int .u64 0] 35) = W0 := ⟨_, rfl⟩
  have hsz : W0.heap.size = w.heap.size + 6 := by subst hW0; simp
  have hb0 : BoxA W0 w.heap.size (.pointer none) 26 := by subst hW0; exact alloc_keep (alloc_keep (alloc_keep (alloc_keep (alloc_keep (new_at _ _)))))
  have hbz : W0.heap[w.heap.size + 1 + 1 + 1 + 1 + 1]? = some (qiO Qi.zero) := by subst hW0; exact new_at' _ _ _ (by simp)
  have M0 : Mod (fun _ => False) w W0 := by subst hW0; exact (((((((Mod.refl _ w).alloc _).alloc _).alloc _).alloc _).alloc _).alloc _)
  have c0 : W0.cell? ⟨w.heap.size, 0, none⟩ = some (.pointer none) := hb0.cell
  obtain ⟨W1, hW1⟩ : ∃ W1, W0.alloc (.cells #[.pointer none] 75) = W1 := ⟨_, rfl⟩
  have hn1 : W1.heap[w.heap.size + 6]? = some (.cells #[.pointer none] 75 (0, 0)) := by subst hW1; exact new_at' _ _ _ hsz.symm
  have q1 : W1.cell? ⟨w.heap.size + 6, 0, none⟩ = some (.pointer none) := (cell_of hn1 0).trans rfl
  have q2 : W1.frozen? ⟨w.heap.size + 6, 0, none⟩ = false := free_of hn1 0
  have q3 : W1.setCell ⟨w.heap.size + 6, 0, none⟩ (.pointer none) = W1 := setCell_idR hn1 rfl
  have HZ : Hid (W1.heap[w.heap.size + 1 + 1 + 1 + 1 + 1]? = some (qiO Qi.zero)) := by subst hW1; exact alloc_keep hbz
  have M1 : Hid (Mod (fun _ => False) w W1) := by subst hW1; exact M0.alloc _
  have hG := pget_nil p W0
  clear hn1 hbz hb0 M0
  go_enter Tryz.func22, Tryz.ntmps22
  go_wp2_with fail
  clear hW0
  refine hG.mono ?_
  rintro e w1 ⟨rfl, rfl⟩
  go_upto_region 3 with (fail)
  clear hW1
  refine wp_region_lit ?_
  iterate 2
    refine wpList_plain rfl fun K hK => ?_
    go_simp
    refine hK _ _ ?_
    clear hK K
  refine wpl_store_row rfl 35 (.tmp 14) (.tmp 31) rfl rfl (w.heap.size + 1 + 1 + 1 + 1 + 1) (qiC Qi.zero) rfl rfl 35 _ HZ.out rfl (qi_one _) (by kernel_rfl) ?_
  intro V9 hv9 mv9
  refine wpList_plain rfl fun K hK => ?_
  go_simp
  refine hK _ _ ?_
  clear hK K
  refine wpList_nil ?_
  have MV : Hid (Mod (fun _ => False) w V9) := M1.out.trans' mv9 fun k hk e => by omega
  go_wp2
  exact bodyPost_ret (results_cell2 rfl _ _ V9 (w.heap.size + 1 + 1 + 1 + 1 + 1) (qiC Qi.zero) _ rfl (qi_rng hv9) Tryz.underlying35 rfl (by kernel_rfl)) rfl ⟨rfl, MV.out⟩
set_option maxHeartbeats 1000000 in
set_option maxRecDepth 100000 in
theorem nil_remove (p : Nat) (who : ByteArray) (now : Nat) (w : World) : Calls Tryz.prog 32 #[.pointer none, .int .u64 p, .string who, .int .u32 now] w fun e w' => e = .returned (.int .i64 1) ∧ Mod (fun _ => False) w w' := by
  obtain ⟨W0, hW0⟩ : ∃ W0, ((w.alloc (.cells #[.pointer none] 26)).alloc (.cells #[.int .u64 p] 33)).alloc (.cells #[.string who] 9) = W0 := ⟨_, rfl⟩
  have hsz : W0.heap.size = w.heap.size + 3 := by subst hW0; simp
  have hb0 : BoxA W0 w.heap.size (.pointer none) 26 := by subst hW0; exact alloc_keep (alloc_keep (new_at _ _))
  have hb1 : BoxA W0 (w.heap.size + 1) (.int .u64 p) 33 := by subst hW0; exact alloc_keep (new_at' _ _ _ (by simp))
  have M0 : Mod (fun _ => False) w W0 := by subst hW0; exact ((((Mod.refl _ w).alloc _).alloc _).alloc _)
  have c0 : W0.cell? ⟨w.heap.size, 0, none⟩ = some (.pointer none) := hb0.cell
  have c1 : W0.cell? ⟨w.heap.size + 1, 0, none⟩ = some (.int .u64 p) := hb1.cell
  obtain ⟨W1, hW1⟩ : ∃ W1, W0.alloc (.cells #[.pointer none] 75) = W1 := ⟨_, rfl⟩
  have hn1 : W1.heap[w.heap.size + 3]? = some (.cells #[.pointer none] 75 (0, 0)) := by subst hW1; exact new_at' _ _ _ hsz.symm
  have q1 : W1.cell? ⟨w.heap.size + 3, 0, none⟩ = some (.pointer none) := (cell_of hn1 0).trans rfl
  have q2 : W1.frozen? ⟨w.heap.size + 3, 0, none⟩ = false := free_of hn1 0
  have q3 : W1.setCell ⟨w.heap.size + 3, 0, none⟩ (.pointer none) = W1 := setCell_idR hn1 rfl
  have M1 : Hid (Mod (fun _ => False) w W1) := by subst hW1; exact M0.alloc _
  have hG := pget_nil p W0
  clear hn1 hb0 hb1 M0
  go_enter Tryz.func32, Tryz.ntmps32
  go_wp2_with fail
  clear hW0
  refine hG.mono ?_
  rintro e w1 ⟨rfl, rfl⟩
  go_wp2
  go_ret
  exact ⟨rfl, M1.out⟩
set_option maxHeartbeats 1000000 in
set_option maxRecDepth 100000 in
theorem nil_wstat (p : Nat) (s : St) (who : ByteArray) (now : Nat) (w : World) : Calls Tryz.prog 33 #[.pointer none, .int .u64 p, .agg s.cells.toArray, .string who, .int .u32 now] w fun e w' => e = .returned (.int .i64 1) ∧ Mod (fun _ => False) w w' := by
  obtain ⟨W0, hW0⟩ : ∃ W0, (((w.alloc (.cells #[.pointer none] 26)).alloc (.cells #[.int .u64 p] 33)).alloc (.cells s.cells.toArray 37)).alloc (.cells #[.string who] 9) = W0 := ⟨_, rfl⟩
  have hsz : W0.heap.size = w.heap.size + 4 := by subst hW0; simp
  have hb0 : BoxA W0 w.heap.size (.pointer none) 26 := by subst hW0; exact alloc_keep (alloc_keep (alloc_keep (new_at _ _)))
  have hb1 : BoxA W0 (w.heap.size + 1) (.int .u64 p) 33 := by subst hW0; exact alloc_keep (alloc_keep (new_at' _ _ _ (by simp)))
  have M0 : Mod (fun _ => False) w W0 := by subst hW0; exact (((((Mod.refl _ w).alloc _).alloc _).alloc _).alloc _)
  have c0 : W0.cell? ⟨w.heap.size, 0, none⟩ = some (.pointer none) := hb0.cell
  have c1 : W0.cell? ⟨w.heap.size + 1, 0, none⟩ = some (.int .u64 p) := hb1.cell
  obtain ⟨W1, hW1⟩ : ∃ W1, W0.alloc (.cells #[.pointer none] 75) = W1 := ⟨_, rfl⟩
  have hn1 : W1.heap[w.heap.size + 4]? = some (.cells #[.pointer none] 75 (0, 0)) := by subst hW1; exact new_at' _ _ _ hsz.symm
  have q1 : W1.cell? ⟨w.heap.size + 4, 0, none⟩ = some (.pointer none) := (cell_of hn1 0).trans rfl
  have q2 : W1.frozen? ⟨w.heap.size + 4, 0, none⟩ = false := free_of hn1 0
  have q3 : W1.setCell ⟨w.heap.size + 4, 0, none⟩ (.pointer none) = W1 := setCell_idR hn1 rfl
  have M1 : Hid (Mod (fun _ => False) w W1) := by subst hW1; exact M0.alloc _
  have hG := pget_nil p W0
  clear hn1 hb0 hb1 M0
  go_enter Tryz.func33, Tryz.ntmps33
  go_wp2_with fail
  clear hW0
  refine hG.mono ?_
  rintro e w1 ⟨rfl, rfl⟩
  go_wp2
  go_ret
  exact ⟨rfl, M1.out⟩
end Go.Proofs.YtkcnbbjmkkaolaaGreatDoor
namespace Go.Proofs.YtkcnbbjmkkaolaaGreatDoor
open Go.RowKit

theorem bs_foldZ (s : SpM) : List.foldl (fun (cs : Array Value) (x : Value × Nat) => cs.setIfInBounds x.snd x.fst) #[.int .i64 0, .int .u64 0, .string { data := #[] }, .string { data := #[] }, .int .u32 0, .int .u8 0, .int .u32 0, .int .u64 0, .int .u32 0, .string { data := #[] }, .int .u16 0, .int .u32 0, .int .u8 0, .int .u32 0, .int .u64 0, .int .u32 0, .int .u32 0, .int .u32 0, .int .u64 0, .string { data := #[] }, .string { data := #[] }, .string { data := #[] }, .string { data := #[] }] s.cells.zipIdx = s.cells.toArray := by kernel_rfl
theorem recs_oneZ (s : SpM) (w : World) : RecsAt SpM.cells 23 (w.alloc (.cells s.cells.toArray 44)) (fun _ => True) (.slice (some ⟨w.heap.size, 0, none⟩) 1 1) [s] :=
  .inr ⟨w.heap.size, 0, 1, rfl, trivial, by rw [World.size_alloc]; omega, Nat.le_refl _, fun j t hj i u hu => by
    cases j with
    | zero =>
      have e : s = t := by simpa using hj
      subst e
      have h0 : (⟨w.heap.size, 0 + 0 * 23 + i, none⟩ : Addr) = ⟨w.heap.size, i, none⟩ := by rw [Nat.zero_mul, Nat.zero_add]
      rw [h0, cell_of (new_at w _), List.getElem?_toArray]; exact hu
    | succ j => simp at hj⟩
set_option maxHeartbeats 16000000 in
set_option maxRecDepth 100000 in
theorem none_walk (z : SpM) (W : World) (hzr : z.Rc) (hT : Tabs W) :
    Calls Tryz.prog 7 #[.agg z.cells.toArray] W fun e w' => e = .returned (.bool true) ∧ Mod (fun _ => False) W w' := by
  obtain ⟨W0, hW0⟩ : ∃ W0, W.alloc (.cells z.cells.toArray 44) = W0 := ⟨_, rfl⟩
  have hZ : W0.heap[W.heap.size]? = some (.cells z.cells.toArray 44 (0, 0)) := by subst hW0; exact new_at _ _
  have m0 : Mod (fun _ => False) W W0 := by subst hW0; exact (Mod.refl _ W).alloc _
  have HT := Lib.hid hT
  have M0 := Lib.hid m0
  have hzl := sp_len z
  have hrz : W0.rangeAt W.heap.size 0 z.cells := fun j u hu => by rw [Nat.zero_add, cell_of hZ, List.getElem?_toArray]; exact hu
  have hb2 := bs_foldZ z
  have hH2 := heavy_any (.slice (some ⟨W0.heap.size, 0, none⟩) 1 1) [z] (W0.alloc (.cells z.cells.toArray 44)) (recs_oneZ z W0) (fun s hs => by rw [List.mem_singleton] at hs; subst hs; exact hzr) (by simp)
  have HZ := Lib.hid hZ
  clear hT m0 hZ
  go_enter Tryz.func7, Tryz.ntmps7
  go_wp2_with (refine wpList_load_mid rfl 44 (.tmp 1) rfl W.heap.size 0 rfl z.cells _ hrz Tryz.underlying44 rfl (by kernel_rfl) ?_)
  clear hW0
  refine hH2.mono ?_
  rintro e w1 ⟨bh, rfl, hbh, m1⟩
  have M1 : Hid (Mod (fun _ => False) W0 w1) := ((Mod.refl (fun _ => False) W0).alloc _).trans m1
  obtain ⟨B, hB⟩ : ∃ B, W.heap.size = B := ⟨_, rfl⟩
  rw [hB] at HZ
  simp only [hB]
  clear hB hH2 hb2 hrz m1 hbh
  cases bh with
  | true =>
    go_wp2_with fail
    refine (works_any w1 (HT.out.mod (M0.out.trans M1.out))).mono ?_
    rintro e w9 ⟨rfl, m9⟩
    have M9 : Hid (Mod (fun _ => False) W w9) := (M0.out.trans M1.out).trans m9
    clear m9
    go_wp2
    go_ret
    exact ⟨rfl, M9.out⟩
  | false =>
  have c1 : (w1).cell? ⟨B, 1, none⟩ = some (.int .u64 z.path) := keepN (M1.out) ((cell_of HZ.out 1).trans rfl)
  have c2 : (w1).cell? ⟨B, 2, none⟩ = some (.string z.name) := keepN (M1.out) ((cell_of HZ.out 2).trans rfl)
  have c3 : (w1).cell? ⟨B, 3, none⟩ = some (.string z.who) := keepN (M1.out) ((cell_of HZ.out 3).trans rfl)
  have c4 : (w1).cell? ⟨B, 4, none⟩ = some (.int .u32 z.perm) := keepN (M1.out) ((cell_of HZ.out 4).trans rfl)
  have c5 : (w1).cell? ⟨B, 5, none⟩ = some (.int .u8 z.mode) := keepN (M1.out) ((cell_of HZ.out 5).trans rfl)
  have c6 : (w1).cell? ⟨B, 6, none⟩ = some (.int .u32 z.now) := keepN (M1.out) ((cell_of HZ.out 6).trans rfl)
  have c7 : (w1).cell? ⟨B, 7, none⟩ = some (.int .u64 z.off) := keepN (M1.out) ((cell_of HZ.out 7).trans rfl)
  have c8 : (w1).cell? ⟨B, 8, none⟩ = some (.int .u32 z.count) := keepN (M1.out) ((cell_of HZ.out 8).trans rfl)
  have c9 : (w1).cell? ⟨B, 9, none⟩ = some (.string z.data) := keepN (M1.out) ((cell_of HZ.out 9).trans rfl)
  go_wp2_with fail
  refine (nil_stat z.path w1).mono ?_
  rintro e w2 ⟨rfl, m2⟩
  clear c1 c2 c3 c4 c5 c6 c7 c8 c9
  go_upto_region 5 with (refine wpl_store_row rfl 37 (.tmp 4) (.tmp 29) rfl rfl w2.heap.size St.none.cells rfl rfl 37 _ (new_at _ _) rfl (st_one _) (by kernel_rfl) ?_; intro V2 hq mq)
  have M2 : Hid (Mod (fun _ => False) W0 V2) := M1.out.trans ((m2.alloc _).trans' mq fun k hk e => by have := m2.size; omega)
  clear m2 hq mq
  have c1 : (V2).cell? ⟨B, 1, none⟩ = some (.int .u64 z.path) := keepN (M2.out) ((cell_of HZ.out 1).trans rfl)
  have c2 : (V2).cell? ⟨B, 2, none⟩ = some (.string z.name) := keepN (M2.out) ((cell_of HZ.out 2).trans rfl)
  have c3 : (V2).cell? ⟨B, 3, none⟩ = some (.string z.who) := keepN (M2.out) ((cell_of HZ.out 3).trans rfl)
  have c4 : (V2).cell? ⟨B, 4, none⟩ = some (.int .u32 z.perm) := keepN (M2.out) ((cell_of HZ.out 4).trans rfl)
  have c5 : (V2).cell? ⟨B, 5, none⟩ = some (.int .u8 z.mode) := keepN (M2.out) ((cell_of HZ.out 5).trans rfl)
  have c6 : (V2).cell? ⟨B, 6, none⟩ = some (.int .u32 z.now) := keepN (M2.out) ((cell_of HZ.out 6).trans rfl)
  have c7 : (V2).cell? ⟨B, 7, none⟩ = some (.int .u64 z.off) := keepN (M2.out) ((cell_of HZ.out 7).trans rfl)
  have c8 : (V2).cell? ⟨B, 8, none⟩ = some (.int .u32 z.count) := keepN (M2.out) ((cell_of HZ.out 8).trans rfl)
  have c9 : (V2).cell? ⟨B, 9, none⟩ = some (.string z.data) := keepN (M2.out) ((cell_of HZ.out 9).trans rfl)
  go_wp2_with fail
  refine (nil_parent z.path V2).mono ?_
  rintro e w3 ⟨rfl, rfl⟩
  go_wp2_with fail
  refine (nil_walk z.path z.name z.who V2).mono ?_
  rintro e w4 ⟨rfl, m2⟩
  clear c1 c2 c3 c4 c5 c6 c7 c8 c9
  go_upto_region 7 with (refine wpl_store_row rfl 35 (.tmp 8) (.tmp 47) rfl rfl (w4).heap.size (qiC Qi.zero) rfl rfl 35 _ (new_at _ _) rfl (qi_one _) (by kernel_rfl) ?_; intro V4 hq mq)
  have M4 : Hid (Mod (fun _ => False) W0 V4) := (M2).out.trans ((m2.alloc _).trans' mq fun k hk e => by have := m2.size; omega)
  clear m2 hq mq
  have c1 : (V4).cell? ⟨B, 1, none⟩ = some (.int .u64 z.path) := keepN ((M4).out) ((cell_of HZ.out 1).trans rfl)
  have c2 : (V4).cell? ⟨B, 2, none⟩ = some (.string z.name) := keepN ((M4).out) ((cell_of HZ.out 2).trans rfl)
  have c3 : (V4).cell? ⟨B, 3, none⟩ = some (.string z.who) := keepN ((M4).out) ((cell_of HZ.out 3).trans rfl)
  have c4 : (V4).cell? ⟨B, 4, none⟩ = some (.int .u32 z.perm) := keepN ((M4).out) ((cell_of HZ.out 4).trans rfl)
  have c5 : (V4).cell? ⟨B, 5, none⟩ = some (.int .u8 z.mode) := keepN ((M4).out) ((cell_of HZ.out 5).trans rfl)
  have c6 : (V4).cell? ⟨B, 6, none⟩ = some (.int .u32 z.now) := keepN ((M4).out) ((cell_of HZ.out 6).trans rfl)
  have c7 : (V4).cell? ⟨B, 7, none⟩ = some (.int .u64 z.off) := keepN ((M4).out) ((cell_of HZ.out 7).trans rfl)
  have c8 : (V4).cell? ⟨B, 8, none⟩ = some (.int .u32 z.count) := keepN ((M4).out) ((cell_of HZ.out 8).trans rfl)
  have c9 : (V4).cell? ⟨B, 9, none⟩ = some (.string z.data) := keepN ((M4).out) ((cell_of HZ.out 9).trans rfl)
  go_wp2_with fail
  refine (nil_open z.path z.mode z.who z.now V4).mono ?_
  rintro e w5 ⟨rfl, m2⟩
  clear c1 c2 c3 c4 c5 c6 c7 c8 c9
  go_upto_region 8 with (refine wpl_store_row rfl 35 (.tmp 10) (.tmp 60) rfl rfl (w5).heap.size (qiC Qi.zero) rfl rfl 35 _ (new_at _ _) rfl (qi_one _) (by kernel_rfl) ?_; intro V5 hq mq)
  have M5 : Hid (Mod (fun _ => False) W0 V5) := (M4).out.trans ((m2.alloc _).trans' mq fun k hk e => by have := m2.size; omega)
  clear m2 hq mq
  have c1 : (V5).cell? ⟨B, 1, none⟩ = some (.int .u64 z.path) := keepN ((M5).out) ((cell_of HZ.out 1).trans rfl)
  have c2 : (V5).cell? ⟨B, 2, none⟩ = some (.string z.name) := keepN ((M5).out) ((cell_of HZ.out 2).trans rfl)
  have c3 : (V5).cell? ⟨B, 3, none⟩ = some (.string z.who) := keepN ((M5).out) ((cell_of HZ.out 3).trans rfl)
  have c4 : (V5).cell? ⟨B, 4, none⟩ = some (.int .u32 z.perm) := keepN ((M5).out) ((cell_of HZ.out 4).trans rfl)
  have c5 : (V5).cell? ⟨B, 5, none⟩ = some (.int .u8 z.mode) := keepN ((M5).out) ((cell_of HZ.out 5).trans rfl)
  have c6 : (V5).cell? ⟨B, 6, none⟩ = some (.int .u32 z.now) := keepN ((M5).out) ((cell_of HZ.out 6).trans rfl)
  have c7 : (V5).cell? ⟨B, 7, none⟩ = some (.int .u64 z.off) := keepN ((M5).out) ((cell_of HZ.out 7).trans rfl)
  have c8 : (V5).cell? ⟨B, 8, none⟩ = some (.int .u32 z.count) := keepN ((M5).out) ((cell_of HZ.out 8).trans rfl)
  have c9 : (V5).cell? ⟨B, 9, none⟩ = some (.string z.data) := keepN ((M5).out) ((cell_of HZ.out 9).trans rfl)
  go_wp2_with fail
  refine (nil_create z.path z.name z.perm z.mode z.who z.now V5).mono ?_
  rintro e w6 ⟨rfl, m2⟩
  clear c1 c2 c3 c4 c5 c6 c7 c8 c9
  go_upto_region 9 with (refine wpl_store_row rfl 35 (.tmp 12) (.tmp 77) rfl rfl (w6).heap.size (qiC Qi.zero) rfl rfl 35 _ (new_at _ _) rfl (qi_one _) (by kernel_rfl) ?_; intro V6 hq mq)
  have M6 : Hid (Mod (fun _ => False) W0 V6) := (M5).out.trans ((m2.alloc _).trans' mq fun k hk e => by have := m2.size; omega)
  clear m2 hq mq
  have c1 : (V6).cell? ⟨B, 1, none⟩ = some (.int .u64 z.path) := keepN ((M6).out) ((cell_of HZ.out 1).trans rfl)
  have c2 : (V6).cell? ⟨B, 2, none⟩ = some (.string z.name) := keepN ((M6).out) ((cell_of HZ.out 2).trans rfl)
  have c3 : (V6).cell? ⟨B, 3, none⟩ = some (.string z.who) := keepN ((M6).out) ((cell_of HZ.out 3).trans rfl)
  have c4 : (V6).cell? ⟨B, 4, none⟩ = some (.int .u32 z.perm) := keepN ((M6).out) ((cell_of HZ.out 4).trans rfl)
  have c5 : (V6).cell? ⟨B, 5, none⟩ = some (.int .u8 z.mode) := keepN ((M6).out) ((cell_of HZ.out 5).trans rfl)
  have c6 : (V6).cell? ⟨B, 6, none⟩ = some (.int .u32 z.now) := keepN ((M6).out) ((cell_of HZ.out 6).trans rfl)
  have c7 : (V6).cell? ⟨B, 7, none⟩ = some (.int .u64 z.off) := keepN ((M6).out) ((cell_of HZ.out 7).trans rfl)
  have c8 : (V6).cell? ⟨B, 8, none⟩ = some (.int .u32 z.count) := keepN ((M6).out) ((cell_of HZ.out 8).trans rfl)
  have c9 : (V6).cell? ⟨B, 9, none⟩ = some (.string z.data) := keepN ((M6).out) ((cell_of HZ.out 9).trans rfl)
  go_wp2_with fail
  refine (nil_read z.path z.off z.count V6).mono ?_
  rintro e w7 ⟨rfl, rfl⟩
  go_wp2_with fail
  refine (nil_list z.path V6).mono ?_
  rintro e w8 ⟨rfl, rfl⟩
  go_wp2_with fail
  refine (nil_write z.path z.off z.data z.who z.now V6).mono ?_
  rintro e w9 ⟨rfl, rfl⟩
  go_wp2_with fail
  refine (nil_remove z.path z.who z.now V6).mono ?_
  rintro e wa ⟨rfl, ma⟩
  have Ma : Hid (Mod (fun _ => False) W0 wa) := M6.out.trans ma
  clear c1 c2 c3 c4 c5 c6 c7 c8 c9
  clear ma
  have c1 : (wa).cell? ⟨B, 1, none⟩ = some (.int .u64 z.path) := keepN (Ma.out) ((cell_of HZ.out 1).trans rfl)
  have c2 : (wa).cell? ⟨B, 2, none⟩ = some (.string z.name) := keepN (Ma.out) ((cell_of HZ.out 2).trans rfl)
  have c3 : (wa).cell? ⟨B, 3, none⟩ = some (.string z.who) := keepN (Ma.out) ((cell_of HZ.out 3).trans rfl)
  have c4 : (wa).cell? ⟨B, 4, none⟩ = some (.int .u32 z.perm) := keepN (Ma.out) ((cell_of HZ.out 4).trans rfl)
  have c5 : (wa).cell? ⟨B, 5, none⟩ = some (.int .u8 z.mode) := keepN (Ma.out) ((cell_of HZ.out 5).trans rfl)
  have c6 : (wa).cell? ⟨B, 6, none⟩ = some (.int .u32 z.now) := keepN (Ma.out) ((cell_of HZ.out 6).trans rfl)
  have c7 : (wa).cell? ⟨B, 7, none⟩ = some (.int .u64 z.off) := keepN (Ma.out) ((cell_of HZ.out 7).trans rfl)
  have c8 : (wa).cell? ⟨B, 8, none⟩ = some (.int .u32 z.count) := keepN (Ma.out) ((cell_of HZ.out 8).trans rfl)
  have c9 : (wa).cell? ⟨B, 9, none⟩ = some (.string z.data) := keepN (Ma.out) ((cell_of HZ.out 9).trans rfl)
  have hrs : wa.rangeAt B 10 z.st.cells := fun j u hu => by
    refine keepN Ma.out ((cell_of HZ.out (10 + j)).trans ?_)
    rw [List.getElem?_toArray]
    unfold SpM.cells
    rw [List.getElem?_append_right (by simp), ← hu]
    congr 1
    simp
  have hsl := st_len z.st
  go_wp2_with (refine wpList_load_guard 37 (.tmp 157) rfl (by rfl) B 10 rfl z.st.cells _ hrs Tryz.underlying37 rfl (by kernel_rfl) ?_)
  refine (nil_wstat z.path z.st z.who z.now wa).mono ?_
  rintro e wb ⟨rfl, mb⟩
  have Mb : Hid (Mod (fun _ => False) W0 wb) := Ma.out.trans mb
  clear c1 c2 c3 c4 c5 c6 c7 c8 c9
  clear mb hrs hsl
  go_wp2_with fail
  refine (nil_all wb).mono ?_
  rintro e wc ⟨rfl, rfl⟩
  go_wp2_with fail
  refine (nil_copy wb).mono ?_
  rintro e wd ⟨rfl, rfl⟩
  go_wp2_with fail
  refine (works_any wb (HT.out.mod (M0.out.trans Mb.out))).mono ?_
  rintro e we ⟨rfl, me⟩
  have Me : Hid (Mod (fun _ => False) W we) := (M0.out.trans Mb.out).trans me
  clear me
  go_wp2
  go_ret
  exact ⟨rfl, Me.out⟩
end Go.Proofs.YtkcnbbjmkkaolaaGreatDoor
