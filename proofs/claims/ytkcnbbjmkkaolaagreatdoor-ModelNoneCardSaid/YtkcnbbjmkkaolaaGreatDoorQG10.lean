/- The package's tree: filled.
   The package's tree: Wstat's questions.
   A tree of files, plain: a new file's mode, as the package makes it.
   The package's Wstat, plain. -/
import Derived.Test.YtkcnbbjmkkaolaaGreatDoorQG09
import Derived.BigQuiet
import Derived.Test.YtkcnbbjmkkaolaaGreatDoorQG00
import Derived.Test.YtkcnbbjmkkaolaaGreatDoorQG06
import Derived.Test.YtkcnbbjmkkaolaaGreatDoorQG05
set_option linter.unusedVariables false
set_option linter.unusedSimpArgs false
namespace Go.Proofs.YtkcnbbjmkkaolaaGreatDoor
open Go.RowKit

set_option maxHeartbeats 8000000 in
set_option maxRecDepth 100000 in
theorem pfilled_any (s i : St) (w : World) : Calls Tryz.prog 80 #[.agg s.cells.toArray, .agg i.cells.toArray] w fun e w' => e = .returned (.agg (filledS s i).cells.toArray) ∧ Mod (fun _ => False) w w' := by
  obtain ⟨W, hW⟩ : ∃ W, ((w.alloc (.cells s.cells.toArray 37)).alloc (.cells i.cells.toArray 37)).alloc (.cells #[.int .u16 0, .int .u32 0, .int .u8 0, .int .u32 0, .int .u64 0, .int .u32 0, .int .u32 0, .int .u32 0, .int .u64 0, .string { data := #[] }, .string { data := #[] }, .string { data := #[] }, .string { data := #[] }] 37) = W := ⟨_, rfl⟩
  have hsz : W.heap.size = w.heap.size + 3 := by subst hW; simp
  have h0 : W.heap[w.heap.size]? = some (.cells s.cells.toArray 37 (0, 0)) := by subst hW; exact alloc_keep (alloc_keep (new_at _ _))
  have h1 : W.heap[w.heap.size + 1]? = some (.cells i.cells.toArray 37 (0, 0)) := by subst hW; exact alloc_keep (new_at' _ _ _ (by simp))
  have h2 : W.heap[w.heap.size + 1 + 1]? = some (stO St.none) := by subst hW; exact new_at' _ _ _ (by simp)
  have M0 : Mod (fun _ => False) w W := by subst hW; exact (((Mod.refl _ w).alloc _).alloc _).alloc _
  have hU := munt_any W
  have h0 := Lib.hid h0
  have h1 := Lib.hid h1
  have h2 := Lib.hid h2
  have M0 := Lib.hid M0
  have HSZ := Lib.hid hsz
  clear hsz
  go_enter Tryz.func80, Tryz.ntmps80
  go_wp2_with fail
  clear hW
  refine hU.mono ?_
  rintro e W1 ⟨rfl, m1⟩
  clear hU
  go_upto_region 2 with (refine wpl_store_row rfl 37 (.tmp 5) (.tmp 7) rfl rfl W1.heap.size St.un.cells rfl rfl 37 _ (new_at _ _) rfl (st_one _) (by kernel_rfl) ?_; intro V hu mV)
  have mV1 : Mod (fun _ => False) W1 V := ((Mod.refl (fun _ => False) W1).alloc _).trans' mV fun k hk e => by omega
  have M1 : Hid (Mod (fun _ => False) W V) := m1.trans mV1
  have hW1 : W.heap.size ≤ W1.heap.size := m1.size
  have hs : V.heap[w.heap.size]? = some (.cells s.cells.toArray 37 (0, 0)) := (M1.out.block _ (lt_of h0.out) (fun x => x)).trans h0.out
  have hi : V.heap[w.heap.size + 1]? = some (.cells i.cells.toArray 37 (0, 0)) := (M1.out.block _ (lt_of h1.out) (fun x => x)).trans h1.out
  have HR : Hid (V.heap[w.heap.size + 1 + 1]? = some (stO St.none)) := (M1.out.block _ (lt_of h2.out) (fun x => x)).trans h2.out
  obtain ⟨B, hB⟩ : ∃ B, W1.heap.size = B := ⟨_, rfl⟩
  rw [hB] at hu
  simp only [hB]
  have HB := Lib.hid hB
  have hBV : B < V.heap.size := lt_of hu
  have a0 : V.cell? ⟨w.heap.size, 0, none⟩ = some (.int .u16 s.ty) := (cell_of hs 0).trans rfl
  have a1 : V.cell? ⟨w.heap.size, 1, none⟩ = some (.int .u32 s.dev) := (cell_of hs 1).trans rfl
  have a2 : V.cell? ⟨w.heap.size, 2, none⟩ = some (.int .u8 s.qt) := (cell_of hs 2).trans rfl
  have a3 : V.cell? ⟨w.heap.size, 3, none⟩ = some (.int .u32 s.qv) := (cell_of hs 3).trans rfl
  have a4 : V.cell? ⟨w.heap.size, 4, none⟩ = some (.int .u64 s.qp) := (cell_of hs 4).trans rfl
  have a5 : V.cell? ⟨w.heap.size, 5, none⟩ = some (.int .u32 s.mo) := (cell_of hs 5).trans rfl
  have a6 : V.cell? ⟨w.heap.size, 6, none⟩ = some (.int .u32 s.at_) := (cell_of hs 6).trans rfl
  have a7 : V.cell? ⟨w.heap.size, 7, none⟩ = some (.int .u32 s.mt) := (cell_of hs 7).trans rfl
  have a8 : V.cell? ⟨w.heap.size, 8, none⟩ = some (.int .u64 s.len) := (cell_of hs 8).trans rfl
  have a9 : V.cell? ⟨w.heap.size, 9, none⟩ = some (.string s.n) := (cell_of hs 9).trans rfl
  have a10 : V.cell? ⟨w.heap.size, 10, none⟩ = some (.string s.u) := (cell_of hs 10).trans rfl
  have a11 : V.cell? ⟨w.heap.size, 11, none⟩ = some (.string s.g) := (cell_of hs 11).trans rfl
  have a12 : V.cell? ⟨w.heap.size, 12, none⟩ = some (.string s.m) := (cell_of hs 12).trans rfl
  have i0 : V.cell? ⟨w.heap.size + 1, 0, none⟩ = some (.int .u16 i.ty) := (cell_of hi 0).trans rfl
  have i1 : V.cell? ⟨w.heap.size + 1, 1, none⟩ = some (.int .u32 i.dev) := (cell_of hi 1).trans rfl
  have i2 : V.cell? ⟨w.heap.size + 1, 2, none⟩ = some (.int .u8 i.qt) := (cell_of hi 2).trans rfl
  have i3 : V.cell? ⟨w.heap.size + 1, 3, none⟩ = some (.int .u32 i.qv) := (cell_of hi 3).trans rfl
  have i4 : V.cell? ⟨w.heap.size + 1, 4, none⟩ = some (.int .u64 i.qp) := (cell_of hi 4).trans rfl
  have i5 : V.cell? ⟨w.heap.size + 1, 5, none⟩ = some (.int .u32 i.mo) := (cell_of hi 5).trans rfl
  have i6 : V.cell? ⟨w.heap.size + 1, 6, none⟩ = some (.int .u32 i.at_) := (cell_of hi 6).trans rfl
  have i7 : V.cell? ⟨w.heap.size + 1, 7, none⟩ = some (.int .u32 i.mt) := (cell_of hi 7).trans rfl
  have i8 : V.cell? ⟨w.heap.size + 1, 8, none⟩ = some (.int .u64 i.len) := (cell_of hi 8).trans rfl
  have i9 : V.cell? ⟨w.heap.size + 1, 9, none⟩ = some (.string i.n) := (cell_of hi 9).trans rfl
  have i10 : V.cell? ⟨w.heap.size + 1, 10, none⟩ = some (.string i.u) := (cell_of hi 10).trans rfl
  have i11 : V.cell? ⟨w.heap.size + 1, 11, none⟩ = some (.string i.g) := (cell_of hi 11).trans rfl
  have i12 : V.cell? ⟨w.heap.size + 1, 12, none⟩ = some (.string i.m) := (cell_of hi 12).trans rfl
  have z0 : V.cell? ⟨B, 0, none⟩ = some (.int .u16 St.un.ty) := (cell_of hu 0).trans rfl
  have z1 : V.cell? ⟨B, 1, none⟩ = some (.int .u32 St.un.dev) := (cell_of hu 1).trans rfl
  have z2 : V.cell? ⟨B, 2, none⟩ = some (.int .u8 St.un.qt) := (cell_of hu 2).trans rfl
  have z3 : V.cell? ⟨B, 3, none⟩ = some (.int .u32 St.un.qv) := (cell_of hu 3).trans rfl
  have z4 : V.cell? ⟨B, 4, none⟩ = some (.int .u64 St.un.qp) := (cell_of hu 4).trans rfl
  have z5 : V.cell? ⟨B, 5, none⟩ = some (.int .u32 St.un.mo) := (cell_of hu 5).trans rfl
  have z6 : V.cell? ⟨B, 6, none⟩ = some (.int .u32 St.un.at_) := (cell_of hu 6).trans rfl
  have z7 : V.cell? ⟨B, 7, none⟩ = some (.int .u32 St.un.mt) := (cell_of hu 7).trans rfl
  have z8 : V.cell? ⟨B, 8, none⟩ = some (.int .u64 St.un.len) := (cell_of hu 8).trans rfl
  have HM : Hid (Mod (fun _ => False) w V) := M0.out.trans M1.out
  have HBl : Hid (w.heap.size + 3 ≤ B) := by show _ ≤ _; rw [← HB.out, ← HSZ.out]; exact hW1
  clear hs hi hu m1 mV mV1 h0 h1 h2 M0 M1 hW1 hB HB
  go_cut [6] from 8 to 38 (fun v wc => v = .pointer (some ⟨V.heap.size, 0, none⟩) ∧ Hid (wc.heap[V.heap.size]? = some (qiO ⟨orN s.qt St.un.qt i.qt, orN s.qv St.un.qv i.qv, orN s.qp St.un.qp i.qp⟩)) ∧ Hid (Mod (fun _ => False) V wc))
  case first =>
    refine wp_region_held_drew (S := fun w' => Hid (Mod (fun _ => False) V w')) (by kernel_rfl) (Lib.hid (Mod.refl (fun _ => False) V).drew) (fun hHeld => ?_)
    refine hT 0 rfl (fun _ _ => by go_simp; all_goals with_reducible rfl) ?_
    try simp only [gA, gB, gC, Act.put, sA, sB, sC]
    refine hT 1 rfl (fun _ _ => by go_simp; all_goals with_reducible rfl) ?_
    try simp only [gA, gB, gC, Act.put, sA, sB, sC]
    refine hT 2 rfl (fun wH hSw => by have cH := keepN hSw.out a2; clear hSw; go_simp; all_goals with_reducible rfl) ?_
    try simp only [gA, gB, gC, Act.put, sA, sB, sC]
    refine hT 3 rfl (fun _ _ => by go_simp; all_goals with_reducible rfl) ?_
    try simp only [gA, gB, gC, Act.put, sA, sB, sC]
    refine hT 4 rfl (fun _ _ => by go_simp; all_goals with_reducible rfl) ?_
    try simp only [gA, gB, gC, Act.put, sA, sB, sC]
    refine hT 5 rfl (fun wH hSw => by have cH := keepN hSw.out z2; clear hSw; go_simp; all_goals with_reducible rfl) ?_
    try simp only [gA, gB, gC, Act.put, sA, sB, sC]
    refine hT 6 rfl (fun _ _ => by go_simp; all_goals with_reducible rfl) ?_
    try simp only [gA, gB, gC, Act.put, sA, sB, sC]
    refine hT 7 rfl (fun _ _ => by go_simp; all_goals with_reducible rfl) ?_
    try simp only [gA, gB, gC, Act.put, sA, sB, sC]
    refine hT 8 rfl (fun wH hSw => by have cH := keepN hSw.out i2; clear hSw; go_simp; all_goals with_reducible rfl) ?_
    try simp only [gA, gB, gC, Act.put, sA, sB, sC]
    refine hT 10 rfl (fun _ _ => by go_simp; all_goals with_reducible rfl) ?_
    try simp only [gA, gB, gC, Act.put, sA, sB, sC]
    refine hT 11 rfl (fun _ _ => by go_simp; all_goals with_reducible rfl) ?_
    try simp only [gA, gB, gC, Act.put, sA, sB, sC]
    refine hT 12 rfl (fun wH hSw => by have cH := keepN hSw.out a3; clear hSw; go_simp; all_goals with_reducible rfl) ?_
    try simp only [gA, gB, gC, Act.put, sA, sB, sC]
    refine hT 13 rfl (fun _ _ => by go_simp; all_goals with_reducible rfl) ?_
    try simp only [gA, gB, gC, Act.put, sA, sB, sC]
    refine hT 14 rfl (fun _ _ => by go_simp; all_goals with_reducible rfl) ?_
    try simp only [gA, gB, gC, Act.put, sA, sB, sC]
    refine hT 15 rfl (fun wH hSw => by have cH := keepN hSw.out z3; clear hSw; go_simp; all_goals with_reducible rfl) ?_
    try simp only [gA, gB, gC, Act.put, sA, sB, sC]
    refine hT 16 rfl (fun _ _ => by go_simp; all_goals with_reducible rfl) ?_
    try simp only [gA, gB, gC, Act.put, sA, sB, sC]
    refine hT 17 rfl (fun _ _ => by go_simp; all_goals with_reducible rfl) ?_
    try simp only [gA, gB, gC, Act.put, sA, sB, sC]
    refine hT 18 rfl (fun wH hSw => by have cH := keepN hSw.out i3; clear hSw; go_simp; all_goals with_reducible rfl) ?_
    try simp only [gA, gB, gC, Act.put, sA, sB, sC]
    refine hT 20 rfl (fun _ _ => by go_simp; all_goals with_reducible rfl) ?_
    try simp only [gA, gB, gC, Act.put, sA, sB, sC]
    refine hT 21 rfl (fun _ _ => by go_simp; all_goals with_reducible rfl) ?_
    try simp only [gA, gB, gC, Act.put, sA, sB, sC]
    refine hT 22 rfl (fun wH hSw => by have cH := keepN hSw.out a4; clear hSw; go_simp; all_goals with_reducible rfl) ?_
    try simp only [gA, gB, gC, Act.put, sA, sB, sC]
    refine hT 23 rfl (fun _ _ => by go_simp; all_goals with_reducible rfl) ?_
    try simp only [gA, gB, gC, Act.put, sA, sB, sC]
    refine hT 24 rfl (fun _ _ => by go_simp; all_goals with_reducible rfl) ?_
    try simp only [gA, gB, gC, Act.put, sA, sB, sC]
    refine hT 25 rfl (fun wH hSw => by have cH := keepN hSw.out z4; clear hSw; go_simp; all_goals with_reducible rfl) ?_
    try simp only [gA, gB, gC, Act.put, sA, sB, sC]
    refine hT 26 rfl (fun _ _ => by go_simp; all_goals with_reducible rfl) ?_
    try simp only [gA, gB, gC, Act.put, sA, sB, sC]
    refine hT 27 rfl (fun _ _ => by go_simp; all_goals with_reducible rfl) ?_
    try simp only [gA, gB, gC, Act.put, sA, sB, sC]
    refine hT 28 rfl (fun wH hSw => by have cH := keepN hSw.out i4; clear hSw; go_simp; all_goals with_reducible rfl) ?_
    try simp only [gA, gB, gC, Act.put, sA, sB, sC]
    refine wpAnyH_ready (rs := [9, 31]) (by kernel_rfl) (by simp) ?_
    refine AllReadyH.cons rfl (fun K hK => ?_) ?_
    rotate_left
    refine AllReadyH.cons rfl (fun K hK => ?_) AllReadyH.nil
    · go_simp
      have mA : Mod (fun _ => False) V (V.drew.alloc (.cells #[.int .u8 0, .int .u32 0, .int .u64 0] 35)) := ((Mod.refl (fun _ => False) V).drew).alloc _
      refine hK.out _ _ (Lib.hid (mA)) ?_; clear hK K hHeld; intro hHeld
      try simp only [gA, gB, gC, Act.put, sA, sB, sC]
      refine hR1 9 rfl fun K hK => ?_
      go_simp
      refine (or8_any _ _ _ _).mono ?_
      rintro e w4 ⟨rfl, rfl⟩
      refine hK.out _ _ (Lib.hid (hHeld.out)) ?_; clear hK K hHeld; intro hHeld
      try simp only [gA, gB, gC, Act.put, sA, sB, sC]
      refine hR1 19 rfl fun K hK => ?_
      go_simp
      refine (or32_any _ _ _ _).mono ?_
      rintro e w4 ⟨rfl, rfl⟩
      refine hK.out _ _ (Lib.hid (hHeld.out)) ?_; clear hK K hHeld; intro hHeld
      try simp only [gA, gB, gC, Act.put, sA, sB, sC]
      refine hR1 29 rfl fun K hK => ?_
      go_simp
      refine (or64_any _ _ _ _).mono ?_
      rintro e w4 ⟨rfl, rfl⟩
      refine hK.out _ _ (Lib.hid (hHeld.out)) ?_; clear hK K hHeld; intro hHeld
      try simp only [gA, gB, gC, Act.put, sA, sB, sC]
      refine hT 30 rfl (fun _ _ => by go_simp; all_goals with_reducible rfl) ?_
      try simp only [gA, gB, gC, Act.put, sA, sB, sC]
      refine hR1 32 rfl fun K hK => ?_
      refine Eq.mpr (if_pos ?hwant) ?_
      case hwant => rfl
      have hzq : (V.drew.alloc (.cells #[.int .u8 0, .int .u32 0, .int .u64 0] 35)).heap[V.heap.size]? = some (qiO Qi.zero) := new_at V.drew _
      refine wp_store_row 35 (.tmp 6) (.tmp 38) rfl V.heap.size (qiC ⟨orN s.qt St.un.qt i.qt, orN s.qv St.un.qv i.qv, orN s.qp St.un.qp i.qp⟩).toArray rfl rfl 35 _ hzq (by kernel_rfl) rfl (qi_all _) ?_
      have hb9 := setRow_heap _ V.heap.size _ (qiC ⟨orN s.qt St.un.qt i.qt, orN s.qv St.un.qv i.qv, orN s.qp St.un.qp i.qp⟩).toArray 35 _ hzq
      have m9 : Mod (fun _ => False) V _ := hHeld.out.trans' (mod_setRow (V.drew.alloc (.cells #[.int .u8 0, .int .u32 0, .int .u64 0] 35)) V.heap.size (qiC ⟨orN s.qt St.un.qt i.qt, orN s.qv St.un.qv i.qv, orN s.qp St.un.qp i.qp⟩).toArray) fun k hk e => by omega
      refine hK.out _ _ (Lib.hid (m9)) ?_; clear hK K hHeld; intro hHeld
      try simp only [gA, gB, gC, Act.put, sA, sB, sC]
      refine wpAnyH_done (by kernel_rfl) ?_ _
      have HB9 : Hid (_ = some (qiO ⟨orN s.qt St.un.qt i.qt, orN s.qv St.un.qv i.qv, orN s.qp St.un.qp i.qp⟩)) := hb9
      clear hb9
      go_wp2
      go_meet
      case rel => exact ⟨rfl, HB9.out, hHeld.out⟩
    · go_simp
      refine (or8_any _ _ _ _).mono ?_
      rintro e w4 ⟨rfl, rfl⟩
      refine hK.out _ _ (Lib.hid (hHeld.out)) ?_; clear hK K hHeld; intro hHeld
      try simp only [gA, gB, gC, Act.put, sA, sB, sC]
      refine wpAnyH_ready (rs := [19, 31]) (by kernel_rfl) (by simp) ?_
      refine AllReadyH.cons rfl (fun K hK => ?_) ?_
      rotate_left
      refine AllReadyH.cons rfl (fun K hK => ?_) AllReadyH.nil
      · go_simp
        have mA : Mod (fun _ => False) V (V.drew.alloc (.cells #[.int .u8 0, .int .u32 0, .int .u64 0] 35)) := ((Mod.refl (fun _ => False) V).drew).alloc _
        refine hK.out _ _ (Lib.hid (mA)) ?_; clear hK K hHeld; intro hHeld
        try simp only [gA, gB, gC, Act.put, sA, sB, sC]
        refine hR1 19 rfl fun K hK => ?_
        go_simp
        refine (or32_any _ _ _ _).mono ?_
        rintro e w4 ⟨rfl, rfl⟩
        refine hK.out _ _ (Lib.hid (hHeld.out)) ?_; clear hK K hHeld; intro hHeld
        try simp only [gA, gB, gC, Act.put, sA, sB, sC]
        refine hR1 29 rfl fun K hK => ?_
        go_simp
        refine (or64_any _ _ _ _).mono ?_
        rintro e w4 ⟨rfl, rfl⟩
        refine hK.out _ _ (Lib.hid (hHeld.out)) ?_; clear hK K hHeld; intro hHeld
        try simp only [gA, gB, gC, Act.put, sA, sB, sC]
        refine hT 30 rfl (fun _ _ => by go_simp; all_goals with_reducible rfl) ?_
        try simp only [gA, gB, gC, Act.put, sA, sB, sC]
        refine hR1 32 rfl fun K hK => ?_
        refine Eq.mpr (if_pos ?hwant) ?_
        case hwant => rfl
        have hzq : (V.drew.alloc (.cells #[.int .u8 0, .int .u32 0, .int .u64 0] 35)).heap[V.heap.size]? = some (qiO Qi.zero) := new_at V.drew _
        refine wp_store_row 35 (.tmp 6) (.tmp 38) rfl V.heap.size (qiC ⟨orN s.qt St.un.qt i.qt, orN s.qv St.un.qv i.qv, orN s.qp St.un.qp i.qp⟩).toArray rfl rfl 35 _ hzq (by kernel_rfl) rfl (qi_all _) ?_
        have hb9 := setRow_heap _ V.heap.size _ (qiC ⟨orN s.qt St.un.qt i.qt, orN s.qv St.un.qv i.qv, orN s.qp St.un.qp i.qp⟩).toArray 35 _ hzq
        have m9 : Mod (fun _ => False) V _ := hHeld.out.trans' (mod_setRow (V.drew.alloc (.cells #[.int .u8 0, .int .u32 0, .int .u64 0] 35)) V.heap.size (qiC ⟨orN s.qt St.un.qt i.qt, orN s.qv St.un.qv i.qv, orN s.qp St.un.qp i.qp⟩).toArray) fun k hk e => by omega
        refine hK.out _ _ (Lib.hid (m9)) ?_; clear hK K hHeld; intro hHeld
        try simp only [gA, gB, gC, Act.put, sA, sB, sC]
        refine wpAnyH_done (by kernel_rfl) ?_ _
        have HB9 : Hid (_ = some (qiO ⟨orN s.qt St.un.qt i.qt, orN s.qv St.un.qv i.qv, orN s.qp St.un.qp i.qp⟩)) := hb9
        clear hb9
        go_wp2
        go_meet
        case rel => exact ⟨rfl, HB9.out, hHeld.out⟩
      · go_simp
        refine (or32_any _ _ _ _).mono ?_
        rintro e w4 ⟨rfl, rfl⟩
        refine hK.out _ _ (Lib.hid (hHeld.out)) ?_; clear hK K hHeld; intro hHeld
        try simp only [gA, gB, gC, Act.put, sA, sB, sC]
        refine wpAnyH_ready (rs := [29, 31]) (by kernel_rfl) (by simp) ?_
        refine AllReadyH.cons rfl (fun K hK => ?_) ?_
        rotate_left
        refine AllReadyH.cons rfl (fun K hK => ?_) AllReadyH.nil
        · go_simp
          have mA : Mod (fun _ => False) V (V.drew.alloc (.cells #[.int .u8 0, .int .u32 0, .int .u64 0] 35)) := ((Mod.refl (fun _ => False) V).drew).alloc _
          refine hK.out _ _ (Lib.hid (mA)) ?_; clear hK K hHeld; intro hHeld
          try simp only [gA, gB, gC, Act.put, sA, sB, sC]
          refine hR1 29 rfl fun K hK => ?_
          go_simp
          refine (or64_any _ _ _ _).mono ?_
          rintro e w4 ⟨rfl, rfl⟩
          refine hK.out _ _ (Lib.hid (hHeld.out)) ?_; clear hK K hHeld; intro hHeld
          try simp only [gA, gB, gC, Act.put, sA, sB, sC]
          refine hT 30 rfl (fun _ _ => by go_simp; all_goals with_reducible rfl) ?_
          try simp only [gA, gB, gC, Act.put, sA, sB, sC]
          refine hR1 32 rfl fun K hK => ?_
          refine Eq.mpr (if_pos ?hwant) ?_
          case hwant => rfl
          have hzq : (V.drew.alloc (.cells #[.int .u8 0, .int .u32 0, .int .u64 0] 35)).heap[V.heap.size]? = some (qiO Qi.zero) := new_at V.drew _
          refine wp_store_row 35 (.tmp 6) (.tmp 38) rfl V.heap.size (qiC ⟨orN s.qt St.un.qt i.qt, orN s.qv St.un.qv i.qv, orN s.qp St.un.qp i.qp⟩).toArray rfl rfl 35 _ hzq (by kernel_rfl) rfl (qi_all _) ?_
          have hb9 := setRow_heap _ V.heap.size _ (qiC ⟨orN s.qt St.un.qt i.qt, orN s.qv St.un.qv i.qv, orN s.qp St.un.qp i.qp⟩).toArray 35 _ hzq
          have m9 : Mod (fun _ => False) V _ := hHeld.out.trans' (mod_setRow (V.drew.alloc (.cells #[.int .u8 0, .int .u32 0, .int .u64 0] 35)) V.heap.size (qiC ⟨orN s.qt St.un.qt i.qt, orN s.qv St.un.qv i.qv, orN s.qp St.un.qp i.qp⟩).toArray) fun k hk e => by omega
          refine hK.out _ _ (Lib.hid (m9)) ?_; clear hK K hHeld; intro hHeld
          try simp only [gA, gB, gC, Act.put, sA, sB, sC]
          refine wpAnyH_done (by kernel_rfl) ?_ _
          have HB9 : Hid (_ = some (qiO ⟨orN s.qt St.un.qt i.qt, orN s.qv St.un.qv i.qv, orN s.qp St.un.qp i.qp⟩)) := hb9
          clear hb9
          go_wp2
          go_meet
          case rel => exact ⟨rfl, HB9.out, hHeld.out⟩
        · go_simp
          refine (or64_any _ _ _ _).mono ?_
          rintro e w4 ⟨rfl, rfl⟩
          refine hK.out _ _ (Lib.hid (hHeld.out)) ?_; clear hK K hHeld; intro hHeld
          try simp only [gA, gB, gC, Act.put, sA, sB, sC]
          refine hT 30 rfl (fun _ _ => by go_simp; all_goals with_reducible rfl) ?_
          try simp only [gA, gB, gC, Act.put, sA, sB, sC]
          refine hR1 31 rfl fun K hK => ?_
          go_simp
          have mA : Mod (fun _ => False) V (V.drew.alloc (.cells #[.int .u8 0, .int .u32 0, .int .u64 0] 35)) := ((Mod.refl (fun _ => False) V).drew).alloc _
          refine hK.out _ _ (Lib.hid (mA)) ?_; clear hK K hHeld; intro hHeld
          try simp only [gA, gB, gC, Act.put, sA, sB, sC]
          refine hR1 32 rfl fun K hK => ?_
          refine Eq.mpr (if_pos ?hwant) ?_
          case hwant => rfl
          have hzq : (V.drew.alloc (.cells #[.int .u8 0, .int .u32 0, .int .u64 0] 35)).heap[V.heap.size]? = some (qiO Qi.zero) := new_at V.drew _
          refine wp_store_row 35 (.tmp 6) (.tmp 38) rfl V.heap.size (qiC ⟨orN s.qt St.un.qt i.qt, orN s.qv St.un.qv i.qv, orN s.qp St.un.qp i.qp⟩).toArray rfl rfl 35 _ hzq (by kernel_rfl) rfl (qi_all _) ?_
          have hb9 := setRow_heap _ V.heap.size _ (qiC ⟨orN s.qt St.un.qt i.qt, orN s.qv St.un.qv i.qv, orN s.qp St.un.qp i.qp⟩).toArray 35 _ hzq
          have m9 : Mod (fun _ => False) V _ := hHeld.out.trans' (mod_setRow (V.drew.alloc (.cells #[.int .u8 0, .int .u32 0, .int .u64 0] 35)) V.heap.size (qiC ⟨orN s.qt St.un.qt i.qt, orN s.qv St.un.qv i.qv, orN s.qp St.un.qp i.qp⟩).toArray) fun k hk e => by omega
          refine hK.out _ _ (Lib.hid (m9)) ?_; clear hK K hHeld; intro hHeld
          try simp only [gA, gB, gC, Act.put, sA, sB, sC]
          refine wpAnyH_done (by kernel_rfl) ?_ _
          have HB9 : Hid (_ = some (qiO ⟨orN s.qt St.un.qt i.qt, orN s.qv St.un.qv i.qv, orN s.qp St.un.qp i.qp⟩)) := hb9
          clear hb9
          go_wp2
          go_meet
          case rel => exact ⟨rfl, HB9.out, hHeld.out⟩
  case rest =>
    obtain ⟨rfl, HQ, HMc⟩ := hcut
    have a0 := keepN HMc.out a0
    have a1 := keepN HMc.out a1
    have a2 := keepN HMc.out a2
    have a3 := keepN HMc.out a3
    have a4 := keepN HMc.out a4
    have a5 := keepN HMc.out a5
    have a6 := keepN HMc.out a6
    have a7 := keepN HMc.out a7
    have a8 := keepN HMc.out a8
    have a9 := keepN HMc.out a9
    have a10 := keepN HMc.out a10
    have a11 := keepN HMc.out a11
    have a12 := keepN HMc.out a12
    have i0 := keepN HMc.out i0
    have i1 := keepN HMc.out i1
    have i2 := keepN HMc.out i2
    have i3 := keepN HMc.out i3
    have i4 := keepN HMc.out i4
    have i5 := keepN HMc.out i5
    have i6 := keepN HMc.out i6
    have i7 := keepN HMc.out i7
    have i8 := keepN HMc.out i8
    have i9 := keepN HMc.out i9
    have i10 := keepN HMc.out i10
    have i11 := keepN HMc.out i11
    have i12 := keepN HMc.out i12
    have z0 := keepN HMc.out z0
    have z1 := keepN HMc.out z1
    have z2 := keepN HMc.out z2
    have z3 := keepN HMc.out z3
    have z4 := keepN HMc.out z4
    have z5 := keepN HMc.out z5
    have z6 := keepN HMc.out z6
    have z7 := keepN HMc.out z7
    have z8 := keepN HMc.out z8
    have q0 : wc.cell? ⟨V.heap.size, 0, none⟩ = some (.int .u8 (orN s.qt St.un.qt i.qt)) := (cell_of HQ.out 0).trans rfl
    have q1 : wc.cell? ⟨V.heap.size, 1, none⟩ = some (.int .u32 (orN s.qv St.un.qv i.qv)) := (cell_of HQ.out 1).trans rfl
    have q2 : wc.cell? ⟨V.heap.size, 2, none⟩ = some (.int .u64 (orN s.qp St.un.qp i.qp)) := (cell_of HQ.out 2).trans rfl
    have HR2 : Hid (wc.heap[w.heap.size + 1 + 1]? = some (stO St.none)) := (HMc.out.block _ (lt_of HR.out) (fun x => x)).trans HR.out
    go_upto_region 3 with (fail)
    refine wp_region_then2 (k := 64) _ _ rfl rfl rfl (by kernel_rfl) (by kernel_rfl) (by kernel_rfl) ?_
    simp only [List.append_eq, List.cons_append, List.nil_append, List.take_succ_cons, List.take_zero]
    repeat (go_big_quiet_step (first
      | (refine (or8_any _ _ _ _).mono ?_; rintro e w' ⟨rfl, rfl⟩; exact ⟨rfl, _, rfl⟩)
      | (refine (or16_any _ _ _ _).mono ?_; rintro e w' ⟨rfl, rfl⟩; exact ⟨rfl, _, rfl⟩)
      | (refine (or32_any _ _ _ _).mono ?_; rintro e w' ⟨rfl, rfl⟩; exact ⟨rfl, _, rfl⟩)
      | (refine (or64_any _ _ _ _).mono ?_; rintro e w' ⟨rfl, rfl⟩; exact ⟨rfl, _, rfl⟩)
      | (refine (orS_any _ _ _).mono ?_; rintro e w' ⟨rfl, rfl⟩; exact ⟨rfl, _, rfl⟩)))
    refine wpQuiet_nil ?_
    intro _ hw'
    obtain ⟨nq, hw''⟩ := hw'
    subst hw''
    intro K hK
    have hz : (wc.drewN nq).heap[w.heap.size + 1 + 1]? = some (stO St.none) := HR2.out
    refine wp_store_row 37 (.tmp 4) (.tmp 102) rfl (w.heap.size + 1 + 1) (filledS s i).cells.toArray rfl rfl 37 _ hz (by kernel_rfl) rfl (st_all _) ?_
    refine hK _ _ ?_
    have hv9 := setRow_heap (wc.drewN nq) (w.heap.size + 1 + 1) _ (filledS s i).cells.toArray 37 _ hz
    have MV : Mod (fun _ => False) w ((wc.drewN nq).setRow (w.heap.size + 1 + 1) (filledS s i).cells.toArray) := ((HM.out.trans HMc.out).drewN nq).trans' (mod_setRow _ _ _) fun k hk e => by omega
    generalize (wc.drewN nq).setRow (w.heap.size + 1 + 1) (filledS s i).cells.toArray = V9 at *
    have MV := Lib.hid MV
    have HV9 : Hid (V9.heap[w.heap.size + 1 + 1]? = some (stO (filledS s i))) := hv9
    clear hv9 hz
    go_wp2
    refine bodyPost_ret (results_cell1 rfl _ _ V9 (w.heap.size + 1 + 1) (filledS s i).cells _ rfl (st_rng HV9.out) Tryz.underlying37 rfl (by kernel_rfl)) rfl ⟨rfl, MV.out⟩
end Go.Proofs.YtkcnbbjmkkaolaaGreatDoor
namespace Go.Proofs.YtkcnbbjmkkaolaaGreatDoor
open Go.RowKit

theorem bits_xor_u32_nat (a b : Nat) (ha : a < 4294967296) (hb : b < 4294967296) :
    bits .xor .u32 (a : Int) (b : Int) = ((a ^^^ b : Nat) : Int) := by
  have hx : a ^^^ b < 2 ^ 32 := Nat.xor_lt_two_pow (by omega) (by omega)
  have h1 : (BitVec.ofInt 32 (a : Int)).toNat = a := by
    rw [BitVec.ofInt_natCast, BitVec.toNat_ofNat]; exact Nat.mod_eq_of_lt (by omega)
  have h2 : (BitVec.ofInt 32 (b : Int)).toNat = b := by
    rw [BitVec.ofInt_natCast, BitVec.toNat_ofNat]; exact Nat.mod_eq_of_lt (by omega)
  show IntKind.u32.wrap ((BitVec.ofInt 32 (a : Int) ^^^ BitVec.ofInt 32 (b : Int)).toNat : Int) = _
  rw [BitVec.toNat_xor, h1, h2, IntKind.wrap_u32]
  omega
theorem pS2 {w : World} {Bn Bp : Nat} {bn : Bool} {p : Nat} (hb : BoxA w Bn (.bool bn) 4) (hp : BoxA w Bp (.int .u64 p) 33) : Calls Tryz.prog 82 #[ptr Bn, ptr Bp] w fun e w' => e = .returned (.bool (bn && decide (p = 1))) ∧ Mod (fun _ => False) w w' := by
  have c0 := hb.cell
  have c1 := hp.cell
  clear hb hp
  unfold ptr
  have HE : Hid (decide (p = 1) = ((p : Int) == 1)) := by show _ = _; rw [Bool.eq_iff_iff]; simp; omega
  cases bn with
  | false =>
    go_enter Tryz.func82, Tryz.ntmps82
    go_wp2
    go_ret
    exact ⟨rfl, Mod.refl _ _⟩
  | true =>
    go_enter Tryz.func82, Tryz.ntmps82
    go_wp2
    go_ret
    exact ⟨by rw [HE.out]; rfl, Mod.refl _ _⟩
theorem pS3 {w : World} {Bb Bn Bw a : Nat} {bn : Bool} {n : Nd} {vk : Value} {who : ByteArray} (hb : BoxA w Bb (.bool bn) 4) (hn : BoxA w Bn (ptr a) 75) (hw : BoxA w Bw (.string who) 9) (ha : w.heap[a]? = some (pnO n vk)) (hp : n.perm < 512) : Calls Tryz.prog 83 #[ptr Bb, ptr Bn, ptr Bw] w fun e w' => e = .returned (.bool (bn && !mayB n who 2)) ∧ Mod (fun _ => False) w w' := by
  have c := hb.cell
  have c0 := hn.cell
  have c1 := hw.cell
  have hd := (pmay_any a n vk who 2 w ha (by decide) hp).mono fun e w' h => (⟨h.1, h.2 ▸ Mod.refl _ _⟩ : e = .returned (.bool (mayB n who 2)) ∧ Mod (fun _ => False) w w')
  clear hb hn hw ha
  unfold ptr at *
  cases bn with
  | false =>
    go_enter Tryz.func83, Tryz.ntmps83
    go_wp2
    go_ret
    exact ⟨rfl, Mod.refl _ _⟩
  | true =>
    go_enter Tryz.func83, Tryz.ntmps83
    go_wp2_with fail
    refine Calls.mono hd ?_
    rintro e w1 ⟨rfl, m1⟩
    go_wp2
    go_ret
    exact ⟨rfl, m1⟩
theorem pS7 {w : World} {Bb Bn Bw a : Nat} {bn : Bool} {n : Nd} {vk : Value} {who : ByteArray} (hb : BoxA w Bb (.bool bn) 4) (hn : BoxA w Bn (ptr a) 75) (hw : BoxA w Bw (.string who) 9) (ha : w.heap[a]? = some (pnO n vk)) (hp : n.perm < 512) : Calls Tryz.prog 87 #[ptr Bb, ptr Bn, ptr Bw] w fun e w' => e = .returned (.bool (bn && !mayB n who 2)) ∧ Mod (fun _ => False) w w' := by
  have c := hb.cell
  have c0 := hn.cell
  have c1 := hw.cell
  have hd := (pmay_any a n vk who 2 w ha (by decide) hp).mono fun e w' h => (⟨h.1, h.2 ▸ Mod.refl _ _⟩ : e = .returned (.bool (mayB n who 2)) ∧ Mod (fun _ => False) w w')
  clear hb hn hw ha
  unfold ptr at *
  cases bn with
  | false =>
    go_enter Tryz.func87, Tryz.ntmps87
    go_wp2
    go_ret
    exact ⟨rfl, Mod.refl _ _⟩
  | true =>
    go_enter Tryz.func87, Tryz.ntmps87
    go_wp2_with fail
    refine Calls.mono hd ?_
    rintro e w1 ⟨rfl, m1⟩
    go_wp2
    go_ret
    exact ⟨rfl, m1⟩
theorem pS6 {w : World} {Bb Bn a : Nat} {bn : Bool} {n : Nd} {vk : Value} (hb : BoxA w Bb (.bool bn) 4) (hn : BoxA w Bn (ptr a) 75) (ha : w.heap[a]? = some (pnO n vk)) : Calls Tryz.prog 86 #[ptr Bb, ptr Bn] w fun e w' => e = .returned (.bool (bn && n.dir)) ∧ Mod (fun _ => False) w w' := by
  have c := hb.cell
  have c0 := hn.cell
  have hd := (pdir_any a n vk w ha).mono fun e w' h => (⟨h.1, h.2 ▸ Mod.refl _ _⟩ : e = .returned (.bool n.dir) ∧ Mod (fun _ => False) w w')
  clear hb hn ha
  unfold ptr at *
  cases bn with
  | false =>
    go_enter Tryz.func86, Tryz.ntmps86
    go_wp2
    go_ret
    exact ⟨rfl, Mod.refl _ _⟩
  | true =>
    go_enter Tryz.func86, Tryz.ntmps86
    go_wp2_with fail
    refine Calls.mono hd ?_
    rintro e w1 ⟨rfl, m1⟩
    go_wp2
    go_ret
    exact ⟨rfl, m1⟩
theorem pS4 {w : World} {Bb Ba : Nat} {bn : Bool} {a : St} (hb : BoxA w Bb (.bool bn) 4) (ha : w.heap[Ba]? = some (stO a)) (hs : a.n.size ≤ 65536) (hT : Tabs w) : Calls Tryz.prog 84 #[ptr Bb, ptr Ba] w fun e w' => e = .returned (.bool (bn && !nameOk a.n)) ∧ Mod (fun _ => False) w w' := by
  have c := hb.cell
  have c0 : w.cell? ⟨Ba, 9, none⟩ = some (.string a.n) := (cell_of ha 9).trans rfl
  have hd := mname_any a.n w (by omega) hT
  clear hb ha hT hs
  unfold ptr at *
  cases bn with
  | false =>
    clear hd
    go_enter Tryz.func84, Tryz.ntmps84
    go_wp2
    go_ret
    exact ⟨rfl, Mod.refl _ _⟩
  | true =>
    unfold nmE at hd
    cases hk : nameOk a.n with
    | true =>
      rw [hk] at hd
      simp only [if_true] at hd
      clear hk
      go_enter Tryz.func84, Tryz.ntmps84
      go_wp2_with fail
      refine Calls.mono hd ?_
      rintro e w1 ⟨rfl, m1⟩
      go_wp2
      go_ret
      exact ⟨rfl, m1⟩
    | false =>
      rw [hk] at hd
      simp only [Bool.false_eq_true, if_false] at hd
      clear hk
      go_enter Tryz.func84, Tryz.ntmps84
      go_wp2_with fail
      refine Calls.mono hd ?_
      rintro e w1 ⟨rfl, m1⟩
      go_wp2
      go_ret
      exact ⟨rfl, m1⟩
theorem pS12 {w : World} {Bb Ba : Nat} {bn : Bool} {a : St} (hb : BoxA w Bb (.bool bn) 4) (ha : w.heap[Ba]? = some (stO a)) (hs : a.g.size ≤ 65536) (hT : Tabs w) : Calls Tryz.prog 92 #[ptr Bb, ptr Ba] w fun e w' => e = .returned (.bool (bn && !userOk a.g)) ∧ Mod (fun _ => False) w w' := by
  have c := hb.cell
  have c0 : w.cell? ⟨Ba, 11, none⟩ = some (.string a.g) := (cell_of ha 11).trans rfl
  have hd := muser_any a.g w (by omega) hT
  clear hb ha hT hs
  unfold ptr at *
  cases bn with
  | false =>
    clear hd
    go_enter Tryz.func92, Tryz.ntmps92
    go_wp2
    go_ret
    exact ⟨rfl, Mod.refl _ _⟩
  | true =>
    unfold nmE at hd
    cases hk : userOk a.g with
    | true =>
      rw [hk] at hd
      simp only [if_true] at hd
      clear hk
      go_enter Tryz.func92, Tryz.ntmps92
      go_wp2_with fail
      refine Calls.mono hd ?_
      rintro e w1 ⟨rfl, m1⟩
      go_wp2
      go_ret
      exact ⟨rfl, m1⟩
    | false =>
      rw [hk] at hd
      simp only [Bool.false_eq_true, if_false] at hd
      clear hk
      go_enter Tryz.func92, Tryz.ntmps92
      go_wp2_with fail
      refine Calls.mono hd ?_
      rintro e w1 ⟨rfl, m1⟩
      go_wp2
      go_ret
      exact ⟨rfl, m1⟩
theorem pS5 {w : World} {ρ : Nat → Role} {b mb cnt : Nat} {T : Tr} {am : Nat → Nat} {vk : Nat → Value} (h : PTreeP w ρ b mb cnt T am vk) (hwf : WF T) {d : Nd} (hd : d ∈ T.L) {Bb Bt Bn Ba : Nat} {bn : Bool} {a : St} (hb : BoxA w Bb (.bool bn) 4) (ht : BoxA w Bt (ptr b) 26) (hn : BoxA w Bn (ptr (am d.path)) 75) (ha : w.heap[Ba]? = some (stO a)) :
    Calls Tryz.prog 85 #[ptr Bb, ptr Bt, ptr Bn, ptr Ba] w fun e w' => e = .returned (.bool (bn && (kidOf T.L d a.n).isSome)) ∧ Mod (fun _ => False) w w' := by
  have c := hb.cell
  have c1 := ht.cell
  have c2 := hn.cell
  have c3 : w.cell? ⟨Ba, 9, none⟩ = some (.string a.n) := (cell_of ha 9).trans rfl
  have hk := pkid_any h hwf d hd a.n
  clear hb ht hn ha h hd hwf
  unfold ptr at *
  cases bn with
  | false =>
    clear hk
    go_enter Tryz.func85, Tryz.ntmps85
    go_wp2
    go_ret
    exact ⟨rfl, Mod.refl _ _⟩
  | true =>
    unfold kidV at hk
    cases hx : kidOf T.L d a.n with
    | none =>
      rw [hx] at hk
      simp only at hk
      clear hx
      go_enter Tryz.func85, Tryz.ntmps85
      go_wp2_with fail
      refine Calls.mono hk ?_
      rintro e w1 ⟨rfl, m1⟩
      go_wp2
      go_ret
      exact ⟨rfl, m1⟩
    | some n =>
      rw [hx] at hk
      simp only at hk
      clear hx
      go_enter Tryz.func85, Tryz.ntmps85
      go_wp2_with fail
      refine Calls.mono hk ?_
      rintro e w1 ⟨rfl, m1⟩
      go_wp2
      go_ret
      exact ⟨rfl, m1⟩
theorem pS8 {w : World} {Bb Ba : Nat} {bn : Bool} {a : St} (hb : BoxA w Bb (.bool bn) 4) (ha : w.heap[Ba]? = some (stO a)) : Calls Tryz.prog 88 #[ptr Bb, ptr Ba] w fun e w' => e = .returned (.bool (bn && decide (7168 < a.len))) ∧ Mod (fun _ => False) w w' := by
  have c := hb.cell
  have c0 : w.cell? ⟨Ba, 8, none⟩ = some (.int .u64 a.len) := (cell_of ha 8).trans rfl
  clear hb ha
  unfold ptr at *
  have HE : Hid (decide (7168 < a.len) = decide (7168 < (a.len : Int))) := by show _ = _; rw [Bool.eq_iff_iff]; simp; omega
  cases bn with
  | false =>
    go_enter Tryz.func88, Tryz.ntmps88
    go_wp2
    go_ret
    exact ⟨rfl, Mod.refl _ _⟩
  | true =>
    go_enter Tryz.func88, Tryz.ntmps88
    go_wp2
    go_ret
    exact ⟨by rw [HE.out]; rfl, Mod.refl _ _⟩
theorem pS9 {w : World} {Bb Bo : Nat} {bn ow : Bool} (hb : BoxA w Bb (.bool bn) 4) (ho : BoxA w Bo (.bool ow) 4) : Calls Tryz.prog 89 #[ptr Bb, ptr Bo] w fun e w' => e = .returned (.bool (bn && !ow)) ∧ Mod (fun _ => False) w w' := by
  have c := hb.cell
  have c0 := ho.cell
  clear hb ho
  unfold ptr at *
  cases bn with
  | false =>
    go_enter Tryz.func89, Tryz.ntmps89
    go_wp2
    go_ret
    exact ⟨rfl, Mod.refl _ _⟩
  | true =>
    go_enter Tryz.func89, Tryz.ntmps89
    go_wp2
    go_ret
    exact ⟨rfl, Mod.refl _ _⟩
theorem pS11 {w : World} {Bb Bo : Nat} {bn ow : Bool} (hb : BoxA w Bb (.bool bn) 4) (ho : BoxA w Bo (.bool ow) 4) : Calls Tryz.prog 91 #[ptr Bb, ptr Bo] w fun e w' => e = .returned (.bool (bn && !ow)) ∧ Mod (fun _ => False) w w' := by
  have c := hb.cell
  have c0 := ho.cell
  clear hb ho
  unfold ptr at *
  cases bn with
  | false =>
    go_enter Tryz.func91, Tryz.ntmps91
    go_wp2
    go_ret
    exact ⟨rfl, Mod.refl _ _⟩
  | true =>
    go_enter Tryz.func91, Tryz.ntmps91
    go_wp2
    go_ret
    exact ⟨rfl, Mod.refl _ _⟩
theorem pS13 {w : World} {Ba Bi Bo : Nat} {a i : St} {ow : Bool} (ha : w.heap[Ba]? = some (stO a)) (hi : w.heap[Bi]? = some (stO i)) (ho : BoxA w Bo (.bool ow) 4) : Calls Tryz.prog 93 #[ptr Ba, ptr Bi, ptr Bo] w fun e w' => e = .returned (.bool (decide (a.mt ≠ i.mt) && !ow)) ∧ Mod (fun _ => False) w w' := by
  have c0 : w.cell? ⟨Ba, 7, none⟩ = some (.int .u32 a.mt) := (cell_of ha 7).trans rfl
  have c1 : w.cell? ⟨Bi, 7, none⟩ = some (.int .u32 i.mt) := (cell_of hi 7).trans rfl
  have c2 := ho.cell
  clear ha hi ho
  unfold ptr at *
  generalize a.mt = x at *
  generalize i.mt = y at *
  by_cases hxy : x = y
  · subst hxy
    rw [show decide (x ≠ x) = false from by simp]
    go_enter Tryz.func93, Tryz.ntmps93
    go_wp2
    go_ret
    exact ⟨rfl, Mod.refl _ _⟩
  · rw [show decide (x ≠ y) = true from by simp [hxy]]
    have t1 : ((x : Int) != (y : Int)) = true := by simp; omega
    have t2 : ((x : Int) == (y : Int)) = false := by simp; omega
    clear hxy
    go_enter Tryz.func93, Tryz.ntmps93
    go_wp2
    go_ret
    exact ⟨rfl, Mod.refl _ _⟩
theorem pS1 {w : World} {Ba Bi : Nat} {a i : St} (ha : w.heap[Ba]? = some (stO a)) (hi : w.heap[Bi]? = some (stO i)) : Calls Tryz.prog 81 #[ptr Ba, ptr Bi] w fun e w' => e = .returned (.bool (!eqS a i)) ∧ Mod (fun _ => False) w w' := by
  have hq : ∀ U, (binOp .neq 37 (.agg a.cells.toArray) (.agg i.cells.toArray)).run Tryz.prog U = .ok (.bool (!eqS a i)) U := fun U => neq_any a i U
  have ra := st_rng ha
  have ri := st_rng hi
  clear ha hi
  unfold ptr at *
  go_enter Tryz.func81, Tryz.ntmps81
  go_wp2_with (first | refine wpList_load_mid rfl 37 (.tmp 0) rfl Ba 0 rfl a.cells _ ra Tryz.underlying37 rfl (by kernel_rfl) ?_ | refine wpList_load_mid rfl 37 (.tmp 1) rfl Bi 0 rfl i.cells _ ri Tryz.underlying37 rfl (by kernel_rfl) ?_)
  go_ret
  exact ⟨rfl, Mod.refl _ _⟩
theorem pS10 {w : World} {Bb Ba Bi : Nat} {bn : Bool} {a i : St} (hb : BoxA w Bb (.bool bn) 4) (ha : w.heap[Ba]? = some (stO a)) (hi : w.heap[Bi]? = some (stO i)) (h1 : a.mo < 4294967296) (h2 : i.mo < 4294967296) : Calls Tryz.prog 90 #[ptr Bb, ptr Ba, ptr Bi] w fun e w' => e = .returned (.bool (bn && decide ((a.mo ^^^ i.mo) &&& 4294966784 ≠ 0))) ∧ Mod (fun _ => False) w w' := by
  have c := hb.cell
  have c0 : w.cell? ⟨Ba, 5, none⟩ = some (.int .u32 a.mo) := (cell_of ha 5).trans rfl
  have c1 : w.cell? ⟨Bi, 5, none⟩ = some (.int .u32 i.mo) := (cell_of hi 5).trans rfl
  clear hb ha hi
  unfold ptr at *
  generalize a.mo = x at *
  generalize i.mo = y at *
  have HE : Hid (decide ((x ^^^ y) &&& 4294966784 ≠ 0) = (bits BinOp.andNot IntKind.u32 (bits BinOp.xor IntKind.u32 (x : Int) (y : Int)) 511 != 0)) := by
    show _ = _
    have hx : x ^^^ y < 2 ^ 32 := Nat.xor_lt_two_pow (by omega) (by omega)
    have z1 : bits .andNot .u32 ((x ^^^ y : Nat) : Int) 511 = (((x ^^^ y) &&& 4294966784 : Nat) : Int) := u32_andNot_nat (x ^^^ y) 511 (by omega) (by decide)
    rw [bits_xor_u32_nat x y h1 h2, z1, Bool.eq_iff_iff]
    simp
  cases bn with
  | false =>
    go_enter Tryz.func90, Tryz.ntmps90
    go_wp2
    go_ret
    exact ⟨rfl, Mod.refl _ _⟩
  | true =>
    go_enter Tryz.func90, Tryz.ntmps90
    go_wp2
    go_ret
    exact ⟨by rw [HE.out]; rfl, Mod.refl _ _⟩
end Go.Proofs.YtkcnbbjmkkaolaaGreatDoor
namespace Go.Proofs.YtkcnbbjmkkaolaaGreatDoor

theorem mode_perm {n : Nd} (hp : n.perm < 512) : modeOf n &&& 511 = n.perm := by
  have h : modeOf n &&& 511 = modeOf n % 512 := Nat.and_two_pow_sub_one_eq_mod (modeOf n) 9
  rw [h]
  unfold modeOf
  split <;> omega
theorem top_bits {x : Nat} (h : x < 4294967296) (h0 : x &&& 2147483136 = 0) : x = x % 512 + if 2147483648 ≤ x then 2147483648 else 0 := by
  have hb : ∀ k, 9 ≤ k → k < 31 → x.testBit k = false := by
    intro k h1 h2
    have h3 : (x &&& 2147483136).testBit k = false := by rw [h0, Nat.zero_testBit]
    rw [Nat.testBit_and] at h3
    have h4 : (2147483136 : Nat).testBit k = true := by
      have : ∀ j : Fin 31, 9 ≤ j.val → (2147483136 : Nat).testBit j.val = true := by decide
      exact this ⟨k, h2⟩ h1
    rw [h4, Bool.and_true] at h3
    exact h3
  have h31 : x % 2147483648 = x % 512 := by
    apply Nat.eq_of_testBit_eq
    intro k
    rw [show (2147483648 : Nat) = 2 ^ 31 from rfl, show (512 : Nat) = 2 ^ 9 from rfl, Nat.testBit_mod_two_pow, Nat.testBit_mod_two_pow]
    by_cases h1 : k < 9
    · simp [h1, show k < 31 by omega]
    · by_cases h2 : k < 31
      · simp [h1, h2, hb k (by omega) h2]
      · simp [h1, h2]
  split <;> omega
/-- the package's mode of a new file is the document's -/
theorem new_mode {perm dp : Nat} {isD : Bool} (h : perm < 4294967296) (h0 : perm &&& 2147483136 = 0) (hi : isD = decide (2147483648 ≤ perm)) :
    perm &&& (4294967295 - ((if isD then 511 else 438) &&& (4294967295 - dp))) = newPerm isD perm dp + if isD then 2147483648 else 0 := by
  unfold newPerm
  have hz : (if isD then 511 else 438) &&& (4294967295 - dp) ≤ 511 := Nat.le_trans Nat.and_le_left (by split <;> decide)
  generalize (if isD then 511 else 438) &&& (4294967295 - dp) = z at *
  have h5 : perm &&& 511 = perm % 512 := Nat.and_two_pow_sub_one_eq_mod perm 9
  have ht := top_bits h h0
  have hy := and_top (x := 4294967295 - z) (by omega)
  rw [if_pos (by omega)] at hy
  generalize hY : 4294967295 - z = Y at *
  rw [h5]
  generalize hq : perm % 512 = q at *
  have hq2 : q < 512 := by omega
  by_cases hx : 2147483648 ≤ perm
  · rw [hi, decide_eq_true hx, if_pos rfl]
    rw [if_pos hx] at ht
    have e1 : 2 ^ 31 ||| q = 2 ^ 31 + q := by
      have h8 := Nat.two_pow_add_eq_or_of_lt (i := 31) (b := q) (by omega) 1
      rw [Nat.mul_one] at h8
      exact h8.symm
    have h7 : q &&& Y ≤ q := Nat.and_le_left
    have e2 : 2 ^ 31 ||| (q &&& Y) = 2 ^ 31 + (q &&& Y) := by
      have h8 := Nat.two_pow_add_eq_or_of_lt (i := 31) (b := q &&& Y) (by omega) 1
      rw [Nat.mul_one] at h8
      exact h8.symm
    have e3 : perm = 2 ^ 31 ||| q := by rw [e1]; omega
    rw [e3, Nat.and_or_distrib_right, Nat.and_comm (2 ^ 31) Y]
    have hy2 : Y &&& 2 ^ 31 = 2 ^ 31 := hy
    rw [hy2, e2]
    omega
  · rw [hi, decide_eq_false hx]
    rw [if_neg hx] at ht
    have e : perm = q := by omega
    rw [e]
    rfl
end Go.Proofs.YtkcnbbjmkkaolaaGreatDoor
namespace Go.Proofs.YtkcnbbjmkkaolaaGreatDoor

def sameS (a i : St) : St := { i with n := a.n, len := a.len, mo := a.mo, g := a.g, mt := a.mt }
theorem sameS_iff (a i : St) : (!eqS a (sameS a i)) = true ↔ ¬ (a.ty = i.ty ∧ a.dev = i.dev ∧ a.qt = i.qt ∧ a.qv = i.qv ∧ a.qp = i.qp ∧ a.at_ = i.at_ ∧ a.u = i.u ∧ a.m = i.m) := by
  rw [Bool.not_eq_true', ← Bool.not_eq_true, eqS_iff]
  obtain ⟨a0, a1, a2, a3, a4, a5, a6, a7, a8, a9, a10, a11, a12⟩ := a
  obtain ⟨b0, b1, b2, b3, b4, b5, b6, b7, b8, b9, b10, b11, b12⟩ := i
  simp [sameS]
theorem wstatE_first (T : Tr) (n d : Nd) (s a i : St) (who : ByteArray) (hp : parOf T.L n = d) (hi : statOf n = i) (ha : filledS s i = a) (bn bl bm bg ow : Bool) (hn : bn = decide (a.n ≠ i.n)) (hl : bl = decide (a.len ≠ i.len)) (hm : bm = decide (a.mo ≠ i.mo)) (hg : bg = decide (a.g ≠ i.g)) (ho : ow = decide (who = n.uid))
    (f1 f2 f3 f4 f5 f6 f7 f8 f9 f10 f11 f12 f13 : Nat) (c1 c2 c3 c4 c5 c6 c7 c8 c9 c10 c11 c12 c13 : Array Value) :
    firstE [⟨f1, c1, 186, !eqS a (sameS a i)⟩, ⟨f2, c2, 187, bn && decide (n.path = 1)⟩, ⟨f3, c3, 182, bn && !mayB d who 2⟩, ⟨f4, c4, 183, bn && !nameOk a.n⟩, ⟨f5, c5, 184, bn && (kidOf T.L d a.n).isSome⟩, ⟨f6, c6, 181, bl && n.dir⟩, ⟨f7, c7, 182, bl && !mayB n who 2⟩, ⟨f8, c8, 4, bl && decide (7168 < a.len)⟩,
      ⟨f9, c9, 182, bm && !ow⟩, ⟨f10, c10, 186, bm && decide ((a.mo ^^^ i.mo) &&& 4294966784 ≠ 0)⟩, ⟨f11, c11, 182, bg && !ow⟩, ⟨f12, c12, 183, bg && !userOk a.g⟩, ⟨f13, c13, 182, decide (a.mt ≠ i.mt) && !ow⟩] = wstatE T n s who := by
  subst hp hi ha hn hl hm hg ho
  unfold wstatE
  dsimp only
  simp only [firstE_cons]
  refine ite_iff (sameS_iff _ _) ?_
  iterate 3
    refine ite_iff (by simp) ?_
  refine ite_iff (by simp [Option.isSome_iff_ne_none]) ?_
  iterate 7
    refine ite_iff (by simp) ?_
  exact ite_iff (by simp) rfl
theorem mode_keep {x : Nat} {n : Nd} (hx : x < 4294967296) (hp : n.perm < 512) (h : (x ^^^ modeOf n) &&& 4294966784 = 0) : x = (x &&& 511) + if n.dir then 2147483648 else 0 := by
  have h511 : x &&& 511 = x % 512 := Nat.and_two_pow_sub_one_eq_mod x 9
  have hy : modeOf n < 4294967296 := by unfold modeOf; split <;> omega
  have hd : modeOf n / 512 = if n.dir then 4194304 else 0 := by unfold modeOf; split <;> omega
  have he : x / 512 = modeOf n / 512 := by
    apply Nat.eq_of_testBit_eq
    intro k
    rw [show (512 : Nat) = 2 ^ 9 from rfl, Nat.testBit_div_two_pow, Nat.testBit_div_two_pow]
    by_cases hk : k + 9 < 32
    · have h3 : ((x ^^^ modeOf n) &&& 4294966784).testBit (k + 9) = false := by rw [h, Nat.zero_testBit]
      rw [Nat.testBit_and, Nat.testBit_xor] at h3
      have h4 : (4294966784 : Nat).testBit (k + 9) = true := by
        have : ∀ j : Fin 32, 9 ≤ j.val → (4294966784 : Nat).testBit j.val = true := by decide
        exact this ⟨k + 9, hk⟩ (by show 9 ≤ k + 9; omega)
      rw [h4, Bool.and_true] at h3
      revert h3
      cases x.testBit (k + 9) <;> cases (modeOf n).testBit (k + 9) <;> simp
    · have hle : 2 ^ 32 ≤ 2 ^ (k + 9) := Nat.pow_le_pow_right (by decide) (by omega)
      rw [Nat.testBit_lt_two_pow (by omega), Nat.testBit_lt_two_pow (by omega)]
  rw [h511]
  split at hd <;> rename_i e <;> simp only [e, if_true, if_false, Bool.false_eq_true] <;> omega
/-- what is done at one file, in the order of the code -/
def wf1 (a : St) (who : ByteArray) (now : Nat) (m : Nd) : Nd := { m with data := sizedB m.data a.len }.touch who now
def wf2 (a : St) (m : Nd) : Nd := { m with name := a.n }
def wf3 (who : ByteArray) (now : Nat) (m : Nd) : Nd := m.touch who now
def wf4 (a : St) (m : Nd) : Nd := { m with perm := a.mo &&& 511, gid := a.g }
def wf5 (s : St) (m : Nd) : Nd := { m with mtime := s.mt }
def wL1 (bl : Bool) (a : St) (who : ByteArray) (now p : Nat) (L : List Nd) : List Nd := if bl then updN L p (wf1 a who now) else L
def wL2 (bn : Bool) (a : St) (who : ByteArray) (now p q : Nat) (L : List Nd) : List Nd := if bn then updN (updN L p (wf2 a)) q (wf3 who now) else L
def wL5 (bt : Bool) (s : St) (p : Nat) (L : List Nd) : List Nd := if bt then updN L p (wf5 s) else L
theorem wstat_law {T : Tr} (hwf : WF T) {n : Nd} (hn : look T.L n.path = some n) (s a : St) (who : ByteArray) (now : Nat) (ha : filledS s (statOf n) = a) (bn bl bt : Bool) (hbn : bn = decide (a.n ≠ n.name)) (hbl : bl = decide (a.len ≠ n.data.size)) (hbt : bt = decide (s.mt ≠ 4294967295)) (h1 : bn = true → n.path ≠ 1) :
    wL5 bt s n.path (updN (wL2 bn a who now n.path n.parent (wL1 bl a who now n.path T.L)) n.path (wf4 a)) = (wstatT' T n s who now).L := by
  have hup : bn = true → n.parent ≠ n.path := fun e => by
    have := hwf.up n (look_some hn).1 (h1 e); omega
  unfold wstatT'
  dsimp only
  rw [ha]
  have e0 : ∀ (c : Bool) (p : Nat) (f : Nd → Nd) (L : List Nd), (if c then updN L p f else L) = L.map fun m => if c = true ∧ m.path = p then f m else m := fun c p f L => by
    cases c <;> simp [updN]
  have e1 : (if a.n ≠ n.name then updN T.L n.parent (fun d => Nd.touch d who now) else T.L) = T.L.map fun m => if bn = true ∧ m.path = n.parent then m.touch who now else m := by
    rw [← e0]
    subst hbn
    by_cases h : a.n ≠ n.name <;> simp [h]
  rw [e1]
  have e2 : wL2 bn a who now n.path n.parent (wL1 bl a who now n.path T.L) = (wL1 bl a who now n.path T.L).map fun m => if bn = true ∧ m.path = n.parent then wf3 who now m else if bn = true ∧ m.path = n.path then wf2 a m else m := by
    unfold wL2
    cases bn with
    | false => simp
    | true =>
      have := hup rfl
      simp only [if_true, true_and]
      unfold updN
      rw [List.map_map]
      refine List.map_congr_left fun m _ => ?_
      simp only [Function.comp]
      by_cases q1 : m.path = n.path
      · have q2 : m.path ≠ n.parent := fun e => this (e ▸ q1)
        have q3 : (wf2 a m).path ≠ n.parent := q2
        simp [q1, q2, q3]
        intro e; exact absurd (e ▸ q1) (fun e => this (by omega))
      · simp [q1]
  rw [e2]
  unfold wL5 wL1
  rw [e0, e0]
  unfold updN
  simp only [List.map_map]
  refine List.map_congr_left fun m hm => ?_
  simp only [Function.comp]
  by_cases q1 : m.path = n.path
  · have e3 : m = n := look_one hwf.rise hn hm q1
    subst e3
    have q2 : ¬ (bn = true ∧ m.path = m.parent) := fun ⟨x, y⟩ => hup x y.symm
    have e5 : wstatN m s who now = { (if a.len ≠ m.data.size then Nd.touch { m with data := sizedB m.data a.len } who now else m) with name := a.n, perm := a.mo &&& 511, gid := a.g, mtime := if s.mt ≠ 4294967295 then s.mt else (if a.len ≠ m.data.size then Nd.touch { m with data := sizedB m.data a.len } who now else m).mtime } := by
      subst ha; rfl
    have f1 : (wf1 a who now m).path = m.path := rfl
    by_cases p1 : a.n ≠ m.name
    · have hu := hup (by rw [hbn]; simpa using p1)
      by_cases p2 : a.len ≠ m.data.size
      · by_cases p3 : s.mt ≠ 4294967295
        · rw [if_pos p2, if_pos p3] at e5
          simp [hbn, hbl, hbt, p1, p2, p3, hu.symm, wf1, wf2, wf3, wf4, wf5, Nd.touch, e5]
        · rw [if_pos p2, if_neg p3] at e5
          simp [hbn, hbl, hbt, p1, p2, p3, hu.symm, wf1, wf2, wf3, wf4, wf5, Nd.touch, e5]
      · by_cases p3 : s.mt ≠ 4294967295
        · rw [if_neg p2, if_pos p3] at e5
          simp [hbn, hbl, hbt, p1, p2, p3, hu.symm, wf1, wf2, wf3, wf4, wf5, Nd.touch, e5]
        · rw [if_neg p2, if_neg p3] at e5
          simp [hbn, hbl, hbt, p1, p2, p3, hu.symm, wf1, wf2, wf3, wf4, wf5, Nd.touch, e5]
    · have p1' : a.n = m.name := Decidable.not_not.1 p1
      by_cases p2 : a.len ≠ m.data.size
      · by_cases p3 : s.mt ≠ 4294967295
        · rw [if_pos p2, if_pos p3] at e5
          simp [hbn, hbl, hbt, p1', p2, p3, wf1, wf2, wf3, wf4, wf5, Nd.touch, e5]
        · rw [if_pos p2, if_neg p3] at e5
          simp [hbn, hbl, hbt, p1', p2, p3, wf1, wf2, wf3, wf4, wf5, Nd.touch, e5]
      · by_cases p3 : s.mt ≠ 4294967295
        · rw [if_neg p2, if_pos p3] at e5
          simp [hbn, hbl, hbt, p1', p2, p3, wf1, wf2, wf3, wf4, wf5, Nd.touch, e5]
        · rw [if_neg p2, if_neg p3] at e5
          simp [hbn, hbl, hbt, p1', p2, p3, wf1, wf2, wf3, wf4, wf5, Nd.touch, e5]
  · by_cases q2 : bn = true ∧ m.path = n.parent
    · obtain ⟨q3, q4⟩ := q2
      have q5 : (wf3 who now m).path ≠ n.path := q1
      have q6 : n.parent ≠ n.path := hup q3
      have q7 : (m.touch who now).path ≠ n.path := q1
      rw [if_neg (show ¬ (bl = true ∧ m.path = n.path) from fun e => q1 e.2), if_pos (c := bn = true ∧ m.path = n.parent) ⟨q3, q4⟩, if_pos (c := bn = true ∧ m.path = n.parent) ⟨q3, q4⟩, if_neg q5, if_neg (fun e => q5 e.2), if_neg q7]
      rfl
    · simp [q1, q2]
end Go.Proofs.YtkcnbbjmkkaolaaGreatDoor
