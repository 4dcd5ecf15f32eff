/- Extents: Room, count, none, May. -/
import Derived.Test.YtfmlgleeojblkaaBase
import Derived.Lib.QuietBelow
namespace Go.Proofs.Ytfmlgleeojblkaa
open Go.RowKit Go.Sort

/-- so many blocks has a class -/
def nblk (c : Int) : Nat := if c < 0 ∨ 4 < c then 0 else 2 ^ c.toNat
theorem nblk_bad {c : Int} (h : c < 0 ∨ 4 < c) : nblk c = 0 := if_pos h
theorem nblk_cases (c : Int) : ((c < 0 ∨ 4 < c) ∧ nblk c = 0) ∨ (c = 0 ∧ nblk c = 1) ∨ (c = 1 ∧ nblk c = 2) ∨ (c = 2 ∧ nblk c = 4) ∨ (c = 3 ∧ nblk c = 8) ∨ (c = 4 ∧ nblk c = 16) := by
  by_cases h : c < 0 ∨ 4 < c
  · exact .inl ⟨h, if_pos h⟩
  · rcases (show c = 0 ∨ c = 1 ∨ c = 2 ∨ c = 3 ∨ c = 4 from by omega) with rfl | rfl | rfl | rfl | rfl <;> simp [nblk]
theorem nblk_le (c : Int) : nblk c ≤ 16 := by
  rcases nblk_cases c with h | h | h | h | h | h <;> omega
/-- which extents may be -/
def mayB (at_ c : Int) : Bool := decide (c = -1 ∧ at_ = 0) || (decide (nblk c ≠ 0 ∧ 0 ≤ at_ ∧ at_ ≤ 16384 - (nblk c : Int)) && decide (at_ % (nblk c : Int) = 0))

theorem room_any (c : Int) (w : World) : Calls Try.prog 12 #[.int .i64 c] w fun e w' => e = .returned (.int .i64 ((448 * nblk c : Nat) : Int)) ∧ w' = w := by
  by_cases h1 : c < 0
  · have t1 : decide (c < 0) = true := by simp [h1]
    rw [nblk_bad (Or.inl h1)]
    go_enter Try.func12, Try.ntmps12
    go_wp2
    go_ret
    exact ⟨rfl, rfl⟩
  · have t1 : decide (c < 0) = false := by simp; omega
    by_cases h2 : 4 < c
    · have t2 : decide (4 < c) = true := by simp [h2]
      rw [nblk_bad (Or.inr h2)]
      go_enter Try.func12, Try.ntmps12
      go_wp2
      go_ret
      exact ⟨rfl, rfl⟩
    · have t2 : decide (4 < c) = false := by simp; omega
      rcases (show c = 0 ∨ c = 1 ∨ c = 2 ∨ c = 3 ∨ c = 4 from by omega) with rfl | rfl | rfl | rfl | rfl
      all_goals
        go_enter Try.func12, Try.ntmps12
        go_wp2
        go_ret
        exact ⟨rfl, rfl⟩
theorem rroom_any (c : Int) (w : World) : Calls Try.prog 19 #[.int .i64 c] w fun e w' => e = .returned (.int .i64 ((448 * nblk c : Nat) : Int)) ∧ w' = w := by
  by_cases h1 : c < 0
  · have t1 : decide (c < 0) = true := by simp [h1]
    rw [nblk_bad (Or.inl h1)]
    go_enter Try.func19, Try.ntmps19
    go_wp2
    go_ret
    exact ⟨rfl, rfl⟩
  · have t1 : decide (c < 0) = false := by simp; omega
    by_cases h2 : 4 < c
    · have t2 : decide (4 < c) = true := by simp [h2]
      rw [nblk_bad (Or.inr h2)]
      go_enter Try.func19, Try.ntmps19
      go_wp2
      go_ret
      exact ⟨rfl, rfl⟩
    · have t2 : decide (4 < c) = false := by simp; omega
      rcases (show c = 0 ∨ c = 1 ∨ c = 2 ∨ c = 3 ∨ c = 4 from by omega) with rfl | rfl | rfl | rfl | rfl
      all_goals
        go_enter Try.func19, Try.ntmps19
        go_wp2
        go_ret
        exact ⟨rfl, rfl⟩

theorem count_any (at_ c : Int) (w : World) : Calls Try.prog 30 #[.agg #[.int .i64 at_, .int .i64 c]] w fun e w' => e = .returned (.int .i64 (nblk c)) ∧ Mod (fun _ => False) w w' := by
  have hn := nblk_le c
  go_enter Try.func30, Try.ntmps30
  go_wp2_with fail
  refine (room_any c _).mono ?_
  rintro e w1 ⟨rfl, rfl⟩
  go_wp2
  go_ret
  exact ⟨ret_int (by simp), (Mod.refl _ w).alloc _⟩

theorem none_any (w : World) : Calls Try.prog 31 #[] w fun e w' => e = .returned (.agg #[.int .i64 0, .int .i64 (-1)]) ∧ Mod (fun _ => False) w w' := by
  go_enter Try.func31, Try.ntmps31
  go_wp2
  have h0 : (w.alloc (.cells #[.int .i64 0, .int .i64 (-1)] 23)).cell? ⟨w.heap.size, 0, none⟩ = some (.int .i64 0) := (cell_of (new_at w _) 0).trans rfl
  have h1 : (w.alloc (.cells #[.int .i64 0, .int .i64 (-1)] 23)).cell? ⟨w.heap.size, 1, none⟩ = some (.int .i64 (-1)) := (cell_of (new_at w _) 1).trans rfl
  refine bodyPost_ret (v := .agg #[.int .i64 0, .int .i64 (-1)]) ?_ rfl ⟨rfl, (Mod.refl _ w).alloc _⟩
  simp [results, Try.f31, go_sem, h0, h1]

set_option maxHeartbeats 1000000 in
theorem may_any (at_ c : Int) (w : World) (hat : -9223372036854775808 ≤ at_ ∧ at_ ≤ 9223372036854775807) (hc : -9223372036854775808 ≤ c ∧ c ≤ 9223372036854775807) :
    Calls Try.prog 13 #[.agg #[.int .i64 at_, .int .i64 c]] w fun e w' => e = .returned (.bool (mayB at_ c)) ∧ Mod (fun _ => False) w w' := by
  rcases nblk_cases c with ⟨hbad, hn0⟩ | ⟨rfl, hn0⟩ | ⟨rfl, hn0⟩ | ⟨rfl, hn0⟩ | ⟨rfl, hn0⟩ | ⟨rfl, hn0⟩
  · by_cases hA : at_ = 0
    · by_cases hC : c = -1
      · subst hA
        subst hC
        obtain ⟨W, hW⟩ : ∃ W, w.alloc (.cells #[.int .i64 0, .int .i64 (-1)] 23) = W := ⟨_, rfl⟩
        have hb : W.heap[w.heap.size]? = some (.cells #[.int .i64 0, .int .i64 (-1)] 23 (0, 0)) := by subst hW; exact new_at _ _
        have hm : Mod (fun _ => False) w W := by subst hW; exact (Mod.refl _ w).alloc _
        have d0 : W.cell? ⟨w.heap.size, 0, none⟩ = some (.int .i64 0) := (cell_of hb 0).trans rfl
        have d1 : W.cell? ⟨w.heap.size, 1, none⟩ = some (.int .i64 (-1)) := (cell_of hb 1).trans rfl
        have hcnt := fun W => count_any 0 (-1) W
        rw [hn0] at hcnt
        have N0 := Lib.hid hn0
        clear hn0
        go_enter Try.func13, Try.ntmps13
        go_wp2_with fail
        refine (hcnt _).mono ?_
        rintro e w1 ⟨rfl, m1⟩
        clear hcnt
        have hb1 := (m1.block _ (lt_of hb) (fun x => x)).trans hb
        have c0 : w1.cell? ⟨w.heap.size, 0, none⟩ = some (.int .i64 0) := (cell_of hb1 0).trans rfl
        have c1 : w1.cell? ⟨w.heap.size, 1, none⟩ = some (.int .i64 (-1)) := (cell_of hb1 1).trans rfl
        have M1 := Lib.hid (hm.trans m1)
        have k0 := cell_regrown c0
        have k1 := cell_regrown c1
        have cNone := fun d os => Calls.regrown_of (w := w1) (d := d) (os := os) ((none_any (grow (redrawn w1 d) os)).mono fun e w' ⟨q1, q2⟩ => ⟨q1, q2.below⟩)
        clear hb hm m1 d0 d1 hW hb1
        go_wp2
        refine wp_region_quiet_below (by kernel_rfl) (by kernel_rfl) ?_
        repeat (go_big_quiet_step ((go_at_call 31; exact cNone _ _)))
        refine wpQuiet_nil ?_
        intro _ hw'
        obtain ⟨⟨dq, osq⟩, hw''⟩ := hw'
        subst hw''
        have b0 := k0 dq osq
        have b1 := k1 dq osq
        have M2 : Hid (Mod (fun _ => False) w (grow (redrawn w1 dq) osq)) := M1.out.trans (Mod.of_below (below_regrown w1 dq osq))
        clear c0 c1 k0 k1 cNone M1
        generalize grow (redrawn w1 dq) osq = w2 at *
        go_wp2
        go_ret
        refine ⟨ret_bool ?_, M2.out⟩
        simp only [mayB, N0.out]
        rfl
      · subst hA
        have s1 : (c == -1) = false := by simp [hC]
        obtain ⟨W, hW⟩ : ∃ W, w.alloc (.cells #[.int .i64 0, .int .i64 c] 23) = W := ⟨_, rfl⟩
        have hb : W.heap[w.heap.size]? = some (.cells #[.int .i64 0, .int .i64 c] 23 (0, 0)) := by subst hW; exact new_at _ _
        have hm : Mod (fun _ => False) w W := by subst hW; exact (Mod.refl _ w).alloc _
        have d0 : W.cell? ⟨w.heap.size, 0, none⟩ = some (.int .i64 0) := (cell_of hb 0).trans rfl
        have d1 : W.cell? ⟨w.heap.size, 1, none⟩ = some (.int .i64 c) := (cell_of hb 1).trans rfl
        have hcnt := fun W => count_any 0 c W
        rw [hn0] at hcnt
        have N0 := Lib.hid hn0
        clear hn0
        go_enter Try.func13, Try.ntmps13
        go_wp2_with fail
        refine (hcnt _).mono ?_
        rintro e w1 ⟨rfl, m1⟩
        clear hcnt
        have hb1 := (m1.block _ (lt_of hb) (fun x => x)).trans hb
        have c0 : w1.cell? ⟨w.heap.size, 0, none⟩ = some (.int .i64 0) := (cell_of hb1 0).trans rfl
        have c1 : w1.cell? ⟨w.heap.size, 1, none⟩ = some (.int .i64 c) := (cell_of hb1 1).trans rfl
        have M1 := Lib.hid (hm.trans m1)
        have k0 := cell_regrown c0
        have k1 := cell_regrown c1
        have cNone := fun d os => Calls.regrown_of (w := w1) (d := d) (os := os) ((none_any (grow (redrawn w1 d) os)).mono fun e w' ⟨q1, q2⟩ => ⟨q1, q2.below⟩)
        clear hb hm m1 d0 d1 hW hb1
        go_wp2
        refine wp_region_quiet_below (by kernel_rfl) (by kernel_rfl) ?_
        repeat (go_big_quiet_step ((go_at_call 31; exact cNone _ _)))
        refine wpQuiet_nil ?_
        intro _ hw'
        obtain ⟨⟨dq, osq⟩, hw''⟩ := hw'
        subst hw''
        have b0 := k0 dq osq
        have b1 := k1 dq osq
        have M2 : Hid (Mod (fun _ => False) w (grow (redrawn w1 dq) osq)) := M1.out.trans (Mod.of_below (below_regrown w1 dq osq))
        clear c0 c1 k0 k1 cNone M1
        generalize grow (redrawn w1 dq) osq = w2 at *
        go_wp2
        go_ret
        refine ⟨ret_bool ?_, M2.out⟩
        simp only [mayB, N0.out]
        (simp [hC])
    · have s1 : (at_ == 0) = false := by simp [hA]
      obtain ⟨W, hW⟩ : ∃ W, w.alloc (.cells #[.int .i64 at_, .int .i64 c] 23) = W := ⟨_, rfl⟩
      have hb : W.heap[w.heap.size]? = some (.cells #[.int .i64 at_, .int .i64 c] 23 (0, 0)) := by subst hW; exact new_at _ _
      have hm : Mod (fun _ => False) w W := by subst hW; exact (Mod.refl _ w).alloc _
      have d0 : W.cell? ⟨w.heap.size, 0, none⟩ = some (.int .i64 at_) := (cell_of hb 0).trans rfl
      have d1 : W.cell? ⟨w.heap.size, 1, none⟩ = some (.int .i64 c) := (cell_of hb 1).trans rfl
      have hcnt := fun W => count_any at_ c W
      rw [hn0] at hcnt
      have N0 := Lib.hid hn0
      clear hn0
      go_enter Try.func13, Try.ntmps13
      go_wp2_with fail
      refine (hcnt _).mono ?_
      rintro e w1 ⟨rfl, m1⟩
      clear hcnt
      have hb1 := (m1.block _ (lt_of hb) (fun x => x)).trans hb
      have c0 : w1.cell? ⟨w.heap.size, 0, none⟩ = some (.int .i64 at_) := (cell_of hb1 0).trans rfl
      have c1 : w1.cell? ⟨w.heap.size, 1, none⟩ = some (.int .i64 c) := (cell_of hb1 1).trans rfl
      have M1 := Lib.hid (hm.trans m1)
      have k0 := cell_regrown c0
      have k1 := cell_regrown c1
      have cNone := fun d os => Calls.regrown_of (w := w1) (d := d) (os := os) ((none_any (grow (redrawn w1 d) os)).mono fun e w' ⟨q1, q2⟩ => ⟨q1, q2.below⟩)
      clear hb hm m1 d0 d1 hW hb1
      go_wp2
      refine wp_region_quiet_below (by kernel_rfl) (by kernel_rfl) ?_
      repeat (go_big_quiet_step ((go_at_call 31; exact cNone _ _)))
      refine wpQuiet_nil ?_
      intro _ hw'
      obtain ⟨⟨dq, osq⟩, hw''⟩ := hw'
      subst hw''
      have b0 := k0 dq osq
      have b1 := k1 dq osq
      have M2 : Hid (Mod (fun _ => False) w (grow (redrawn w1 dq) osq)) := M1.out.trans (Mod.of_below (below_regrown w1 dq osq))
      clear c0 c1 k0 k1 cNone M1
      generalize grow (redrawn w1 dq) osq = w2 at *
      go_wp2
      go_ret
      refine ⟨ret_bool ?_, M2.out⟩
      simp only [mayB, N0.out]
      (simp [hA])
  · by_cases h1 : at_ < 0
    · have t1 : decide (at_ < 0) = true := by simp [h1]
      obtain ⟨W, hW⟩ : ∃ W, w.alloc (.cells #[.int .i64 at_, .int .i64 0] 23) = W := ⟨_, rfl⟩
      have hb : W.heap[w.heap.size]? = some (.cells #[.int .i64 at_, .int .i64 0] 23 (0, 0)) := by subst hW; exact new_at _ _
      have hm : Mod (fun _ => False) w W := by subst hW; exact (Mod.refl _ w).alloc _
      have d0 : W.cell? ⟨w.heap.size, 0, none⟩ = some (.int .i64 at_) := (cell_of hb 0).trans rfl
      have d1 : W.cell? ⟨w.heap.size, 1, none⟩ = some (.int .i64 0) := (cell_of hb 1).trans rfl
      have hcnt := fun W => count_any at_ 0 W
      rw [hn0] at hcnt
      have N0 := Lib.hid hn0
      clear hn0
      go_enter Try.func13, Try.ntmps13
      go_wp2_with fail
      refine (hcnt _).mono ?_
      rintro e w1 ⟨rfl, m1⟩
      clear hcnt
      have hb1 := (m1.block _ (lt_of hb) (fun x => x)).trans hb
      have c0 : w1.cell? ⟨w.heap.size, 0, none⟩ = some (.int .i64 at_) := (cell_of hb1 0).trans rfl
      have c1 : w1.cell? ⟨w.heap.size, 1, none⟩ = some (.int .i64 0) := (cell_of hb1 1).trans rfl
      have M1 := Lib.hid (hm.trans m1)
      have k0 := cell_regrown c0
      have k1 := cell_regrown c1
      have cNone := fun d os => Calls.regrown_of (w := w1) (d := d) (os := os) ((none_any (grow (redrawn w1 d) os)).mono fun e w' ⟨q1, q2⟩ => ⟨q1, q2.below⟩)
      clear hb hm m1 d0 d1 hW hb1
      go_wp2
      refine wp_region_quiet_below (by kernel_rfl) (by kernel_rfl) ?_
      repeat (go_big_quiet_step ((go_at_call 31; exact cNone _ _)))
      refine wpQuiet_nil ?_
      intro _ hw'
      obtain ⟨⟨dq, osq⟩, hw''⟩ := hw'
      subst hw''
      have b0 := k0 dq osq
      have b1 := k1 dq osq
      have M2 : Hid (Mod (fun _ => False) w (grow (redrawn w1 dq) osq)) := M1.out.trans (Mod.of_below (below_regrown w1 dq osq))
      clear c0 c1 k0 k1 cNone M1
      generalize grow (redrawn w1 dq) osq = w2 at *
      go_wp2
      go_ret
      refine ⟨ret_bool ?_, M2.out⟩
      simp only [mayB, N0.out]
      (simp; omega)
    · have t1 : decide (at_ < 0) = false := by simp; omega
      by_cases h2 : 16383 < at_
      · have t2 : decide (16383 < at_) = true := by simp; omega
        obtain ⟨W, hW⟩ : ∃ W, w.alloc (.cells #[.int .i64 at_, .int .i64 0] 23) = W := ⟨_, rfl⟩
        have hb : W.heap[w.heap.size]? = some (.cells #[.int .i64 at_, .int .i64 0] 23 (0, 0)) := by subst hW; exact new_at _ _
        have hm : Mod (fun _ => False) w W := by subst hW; exact (Mod.refl _ w).alloc _
        have d0 : W.cell? ⟨w.heap.size, 0, none⟩ = some (.int .i64 at_) := (cell_of hb 0).trans rfl
        have d1 : W.cell? ⟨w.heap.size, 1, none⟩ = some (.int .i64 0) := (cell_of hb 1).trans rfl
        have hcnt := fun W => count_any at_ 0 W
        rw [hn0] at hcnt
        have N0 := Lib.hid hn0
        clear hn0
        go_enter Try.func13, Try.ntmps13
        go_wp2_with fail
        refine (hcnt _).mono ?_
        rintro e w1 ⟨rfl, m1⟩
        clear hcnt
        have hb1 := (m1.block _ (lt_of hb) (fun x => x)).trans hb
        have c0 : w1.cell? ⟨w.heap.size, 0, none⟩ = some (.int .i64 at_) := (cell_of hb1 0).trans rfl
        have c1 : w1.cell? ⟨w.heap.size, 1, none⟩ = some (.int .i64 0) := (cell_of hb1 1).trans rfl
        have M1 := Lib.hid (hm.trans m1)
        have k0 := cell_regrown c0
        have k1 := cell_regrown c1
        have cNone := fun d os => Calls.regrown_of (w := w1) (d := d) (os := os) ((none_any (grow (redrawn w1 d) os)).mono fun e w' ⟨q1, q2⟩ => ⟨q1, q2.below⟩)
        clear hb hm m1 d0 d1 hW hb1
        go_wp2
        refine wp_region_quiet_below (by kernel_rfl) (by kernel_rfl) ?_
        repeat (go_big_quiet_step ((go_at_call 31; exact cNone _ _)))
        refine wpQuiet_nil ?_
        intro _ hw'
        obtain ⟨⟨dq, osq⟩, hw''⟩ := hw'
        subst hw''
        have b0 := k0 dq osq
        have b1 := k1 dq osq
        have M2 : Hid (Mod (fun _ => False) w (grow (redrawn w1 dq) osq)) := M1.out.trans (Mod.of_below (below_regrown w1 dq osq))
        clear c0 c1 k0 k1 cNone M1
        generalize grow (redrawn w1 dq) osq = w2 at *
        go_wp2
        go_ret
        refine ⟨ret_bool ?_, M2.out⟩
        simp only [mayB, N0.out]
        (simp; omega)
      · have t2 : decide (16383 < at_) = false := by simp; omega
        obtain ⟨W, hW⟩ : ∃ W, w.alloc (.cells #[.int .i64 at_, .int .i64 0] 23) = W := ⟨_, rfl⟩
        have hb : W.heap[w.heap.size]? = some (.cells #[.int .i64 at_, .int .i64 0] 23 (0, 0)) := by subst hW; exact new_at _ _
        have hm : Mod (fun _ => False) w W := by subst hW; exact (Mod.refl _ w).alloc _
        have d0 : W.cell? ⟨w.heap.size, 0, none⟩ = some (.int .i64 at_) := (cell_of hb 0).trans rfl
        have d1 : W.cell? ⟨w.heap.size, 1, none⟩ = some (.int .i64 0) := (cell_of hb 1).trans rfl
        have hcnt := fun W => count_any at_ 0 W
        rw [hn0] at hcnt
        have N0 := Lib.hid hn0
        clear hn0
        go_enter Try.func13, Try.ntmps13
        go_wp2_with fail
        refine (hcnt _).mono ?_
        rintro e w1 ⟨rfl, m1⟩
        clear hcnt
        have hb1 := (m1.block _ (lt_of hb) (fun x => x)).trans hb
        have c0 : w1.cell? ⟨w.heap.size, 0, none⟩ = some (.int .i64 at_) := (cell_of hb1 0).trans rfl
        have c1 : w1.cell? ⟨w.heap.size, 1, none⟩ = some (.int .i64 0) := (cell_of hb1 1).trans rfl
        have M1 := Lib.hid (hm.trans m1)
        have k0 := cell_regrown c0
        have k1 := cell_regrown c1
        have cNone := fun d os => Calls.regrown_of (w := w1) (d := d) (os := os) ((none_any (grow (redrawn w1 d) os)).mono fun e w' ⟨q1, q2⟩ => ⟨q1, q2.below⟩)
        clear hb hm m1 d0 d1 hW hb1
        go_wp2
        refine wp_region_quiet_below (by kernel_rfl) (by kernel_rfl) ?_
        repeat (go_big_quiet_step ((go_at_call 31; exact cNone _ _)))
        refine wpQuiet_nil ?_
        intro _ hw'
        obtain ⟨⟨dq, osq⟩, hw''⟩ := hw'
        subst hw''
        have b0 := k0 dq osq
        have b1 := k1 dq osq
        have M2 : Hid (Mod (fun _ => False) w (grow (redrawn w1 dq) osq)) := M1.out.trans (Mod.of_below (below_regrown w1 dq osq))
        clear c0 c1 k0 k1 cNone M1
        generalize grow (redrawn w1 dq) osq = w2 at *
        go_wp2
        go_ret
        refine ⟨ret_bool ?_, M2.out⟩
        simp only [mayB, N0.out]
        (rw [Bool.eq_iff_iff]; simp; try omega)
  · by_cases h1 : at_ < 0
    · have t1 : decide (at_ < 0) = true := by simp [h1]
      obtain ⟨W, hW⟩ : ∃ W, w.alloc (.cells #[.int .i64 at_, .int .i64 1] 23) = W := ⟨_, rfl⟩
      have hb : W.heap[w.heap.size]? = some (.cells #[.int .i64 at_, .int .i64 1] 23 (0, 0)) := by subst hW; exact new_at _ _
      have hm : Mod (fun _ => False) w W := by subst hW; exact (Mod.refl _ w).alloc _
      have d0 : W.cell? ⟨w.heap.size, 0, none⟩ = some (.int .i64 at_) := (cell_of hb 0).trans rfl
      have d1 : W.cell? ⟨w.heap.size, 1, none⟩ = some (.int .i64 1) := (cell_of hb 1).trans rfl
      have hcnt := fun W => count_any at_ 1 W
      rw [hn0] at hcnt
      have N0 := Lib.hid hn0
      clear hn0
      go_enter Try.func13, Try.ntmps13
      go_wp2_with fail
      refine (hcnt _).mono ?_
      rintro e w1 ⟨rfl, m1⟩
      clear hcnt
      have hb1 := (m1.block _ (lt_of hb) (fun x => x)).trans hb
      have c0 : w1.cell? ⟨w.heap.size, 0, none⟩ = some (.int .i64 at_) := (cell_of hb1 0).trans rfl
      have c1 : w1.cell? ⟨w.heap.size, 1, none⟩ = some (.int .i64 1) := (cell_of hb1 1).trans rfl
      have M1 := Lib.hid (hm.trans m1)
      have k0 := cell_regrown c0
      have k1 := cell_regrown c1
      have cNone := fun d os => Calls.regrown_of (w := w1) (d := d) (os := os) ((none_any (grow (redrawn w1 d) os)).mono fun e w' ⟨q1, q2⟩ => ⟨q1, q2.below⟩)
      clear hb hm m1 d0 d1 hW hb1
      go_wp2
      refine wp_region_quiet_below (by kernel_rfl) (by kernel_rfl) ?_
      repeat (go_big_quiet_step ((go_at_call 31; exact cNone _ _)))
      refine wpQuiet_nil ?_
      intro _ hw'
      obtain ⟨⟨dq, osq⟩, hw''⟩ := hw'
      subst hw''
      have b0 := k0 dq osq
      have b1 := k1 dq osq
      have M2 : Hid (Mod (fun _ => False) w (grow (redrawn w1 dq) osq)) := M1.out.trans (Mod.of_below (below_regrown w1 dq osq))
      clear c0 c1 k0 k1 cNone M1
      generalize grow (redrawn w1 dq) osq = w2 at *
      go_wp2
      go_ret
      refine ⟨ret_bool ?_, M2.out⟩
      simp only [mayB, N0.out]
      (simp; omega)
    · have t1 : decide (at_ < 0) = false := by simp; omega
      by_cases h2 : 16382 < at_
      · have t2 : decide (16382 < at_) = true := by simp; omega
        obtain ⟨W, hW⟩ : ∃ W, w.alloc (.cells #[.int .i64 at_, .int .i64 1] 23) = W := ⟨_, rfl⟩
        have hb : W.heap[w.heap.size]? = some (.cells #[.int .i64 at_, .int .i64 1] 23 (0, 0)) := by subst hW; exact new_at _ _
        have hm : Mod (fun _ => False) w W := by subst hW; exact (Mod.refl _ w).alloc _
        have d0 : W.cell? ⟨w.heap.size, 0, none⟩ = some (.int .i64 at_) := (cell_of hb 0).trans rfl
        have d1 : W.cell? ⟨w.heap.size, 1, none⟩ = some (.int .i64 1) := (cell_of hb 1).trans rfl
        have hcnt := fun W => count_any at_ 1 W
        rw [hn0] at hcnt
        have N0 := Lib.hid hn0
        clear hn0
        go_enter Try.func13, Try.ntmps13
        go_wp2_with fail
        refine (hcnt _).mono ?_
        rintro e w1 ⟨rfl, m1⟩
        clear hcnt
        have hb1 := (m1.block _ (lt_of hb) (fun x => x)).trans hb
        have c0 : w1.cell? ⟨w.heap.size, 0, none⟩ = some (.int .i64 at_) := (cell_of hb1 0).trans rfl
        have c1 : w1.cell? ⟨w.heap.size, 1, none⟩ = some (.int .i64 1) := (cell_of hb1 1).trans rfl
        have M1 := Lib.hid (hm.trans m1)
        have k0 := cell_regrown c0
        have k1 := cell_regrown c1
        have cNone := fun d os => Calls.regrown_of (w := w1) (d := d) (os := os) ((none_any (grow (redrawn w1 d) os)).mono fun e w' ⟨q1, q2⟩ => ⟨q1, q2.below⟩)
        clear hb hm m1 d0 d1 hW hb1
        go_wp2
        refine wp_region_quiet_below (by kernel_rfl) (by kernel_rfl) ?_
        repeat (go_big_quiet_step ((go_at_call 31; exact cNone _ _)))
        refine wpQuiet_nil ?_
        intro _ hw'
        obtain ⟨⟨dq, osq⟩, hw''⟩ := hw'
        subst hw''
        have b0 := k0 dq osq
        have b1 := k1 dq osq
        have M2 : Hid (Mod (fun _ => False) w (grow (redrawn w1 dq) osq)) := M1.out.trans (Mod.of_below (below_regrown w1 dq osq))
        clear c0 c1 k0 k1 cNone M1
        generalize grow (redrawn w1 dq) osq = w2 at *
        go_wp2
        go_ret
        refine ⟨ret_bool ?_, M2.out⟩
        simp only [mayB, N0.out]
        (simp; omega)
      · have t2 : decide (16382 < at_) = false := by simp; omega
        obtain ⟨W, hW⟩ : ∃ W, w.alloc (.cells #[.int .i64 at_, .int .i64 1] 23) = W := ⟨_, rfl⟩
        have hb : W.heap[w.heap.size]? = some (.cells #[.int .i64 at_, .int .i64 1] 23 (0, 0)) := by subst hW; exact new_at _ _
        have hm : Mod (fun _ => False) w W := by subst hW; exact (Mod.refl _ w).alloc _
        have d0 : W.cell? ⟨w.heap.size, 0, none⟩ = some (.int .i64 at_) := (cell_of hb 0).trans rfl
        have d1 : W.cell? ⟨w.heap.size, 1, none⟩ = some (.int .i64 1) := (cell_of hb 1).trans rfl
        have hcnt := fun W => count_any at_ 1 W
        rw [hn0] at hcnt
        have N0 := Lib.hid hn0
        clear hn0
        go_enter Try.func13, Try.ntmps13
        go_wp2_with fail
        refine (hcnt _).mono ?_
        rintro e w1 ⟨rfl, m1⟩
        clear hcnt
        have hb1 := (m1.block _ (lt_of hb) (fun x => x)).trans hb
        have c0 : w1.cell? ⟨w.heap.size, 0, none⟩ = some (.int .i64 at_) := (cell_of hb1 0).trans rfl
        have c1 : w1.cell? ⟨w.heap.size, 1, none⟩ = some (.int .i64 1) := (cell_of hb1 1).trans rfl
        have M1 := Lib.hid (hm.trans m1)
        have k0 := cell_regrown c0
        have k1 := cell_regrown c1
        have cNone := fun d os => Calls.regrown_of (w := w1) (d := d) (os := os) ((none_any (grow (redrawn w1 d) os)).mono fun e w' ⟨q1, q2⟩ => ⟨q1, q2.below⟩)
        clear hb hm m1 d0 d1 hW hb1
        go_wp2
        refine wp_region_quiet_below (by kernel_rfl) (by kernel_rfl) ?_
        repeat (go_big_quiet_step ((go_at_call 31; exact cNone _ _)))
        refine wpQuiet_nil ?_
        intro _ hw'
        obtain ⟨⟨dq, osq⟩, hw''⟩ := hw'
        subst hw''
        have b0 := k0 dq osq
        have b1 := k1 dq osq
        have M2 : Hid (Mod (fun _ => False) w (grow (redrawn w1 dq) osq)) := M1.out.trans (Mod.of_below (below_regrown w1 dq osq))
        clear c0 c1 k0 k1 cNone M1
        generalize grow (redrawn w1 dq) osq = w2 at *
        go_wp2
        go_ret
        refine ⟨ret_bool ?_, M2.out⟩
        simp only [mayB, N0.out]
        (rw [Bool.eq_iff_iff]; simp; try omega)
  · by_cases h1 : at_ < 0
    · have t1 : decide (at_ < 0) = true := by simp [h1]
      obtain ⟨W, hW⟩ : ∃ W, w.alloc (.cells #[.int .i64 at_, .int .i64 2] 23) = W := ⟨_, rfl⟩
      have hb : W.heap[w.heap.size]? = some (.cells #[.int .i64 at_, .int .i64 2] 23 (0, 0)) := by subst hW; exact new_at _ _
      have hm : Mod (fun _ => False) w W := by subst hW; exact (Mod.refl _ w).alloc _
      have d0 : W.cell? ⟨w.heap.size, 0, none⟩ = some (.int .i64 at_) := (cell_of hb 0).trans rfl
      have d1 : W.cell? ⟨w.heap.size, 1, none⟩ = some (.int .i64 2) := (cell_of hb 1).trans rfl
      have hcnt := fun W => count_any at_ 2 W
      rw [hn0] at hcnt
      have N0 := Lib.hid hn0
      clear hn0
      go_enter Try.func13, Try.ntmps13
      go_wp2_with fail
      refine (hcnt _).mono ?_
      rintro e w1 ⟨rfl, m1⟩
      clear hcnt
      have hb1 := (m1.block _ (lt_of hb) (fun x => x)).trans hb
      have c0 : w1.cell? ⟨w.heap.size, 0, none⟩ = some (.int .i64 at_) := (cell_of hb1 0).trans rfl
      have c1 : w1.cell? ⟨w.heap.size, 1, none⟩ = some (.int .i64 2) := (cell_of hb1 1).trans rfl
      have M1 := Lib.hid (hm.trans m1)
      have k0 := cell_regrown c0
      have k1 := cell_regrown c1
      have cNone := fun d os => Calls.regrown_of (w := w1) (d := d) (os := os) ((none_any (grow (redrawn w1 d) os)).mono fun e w' ⟨q1, q2⟩ => ⟨q1, q2.below⟩)
      clear hb hm m1 d0 d1 hW hb1
      go_wp2
      refine wp_region_quiet_below (by kernel_rfl) (by kernel_rfl) ?_
      repeat (go_big_quiet_step ((go_at_call 31; exact cNone _ _)))
      refine wpQuiet_nil ?_
      intro _ hw'
      obtain ⟨⟨dq, osq⟩, hw''⟩ := hw'
      subst hw''
      have b0 := k0 dq osq
      have b1 := k1 dq osq
      have M2 : Hid (Mod (fun _ => False) w (grow (redrawn w1 dq) osq)) := M1.out.trans (Mod.of_below (below_regrown w1 dq osq))
      clear c0 c1 k0 k1 cNone M1
      generalize grow (redrawn w1 dq) osq = w2 at *
      go_wp2
      go_ret
      refine ⟨ret_bool ?_, M2.out⟩
      simp only [mayB, N0.out]
      (simp; omega)
    · have t1 : decide (at_ < 0) = false := by simp; omega
      by_cases h2 : 16380 < at_
      · have t2 : decide (16380 < at_) = true := by simp; omega
        obtain ⟨W, hW⟩ : ∃ W, w.alloc (.cells #[.int .i64 at_, .int .i64 2] 23) = W := ⟨_, rfl⟩
        have hb : W.heap[w.heap.size]? = some (.cells #[.int .i64 at_, .int .i64 2] 23 (0, 0)) := by subst hW; exact new_at _ _
        have hm : Mod (fun _ => False) w W := by subst hW; exact (Mod.refl _ w).alloc _
        have d0 : W.cell? ⟨w.heap.size, 0, none⟩ = some (.int .i64 at_) := (cell_of hb 0).trans rfl
        have d1 : W.cell? ⟨w.heap.size, 1, none⟩ = some (.int .i64 2) := (cell_of hb 1).trans rfl
        have hcnt := fun W => count_any at_ 2 W
        rw [hn0] at hcnt
        have N0 := Lib.hid hn0
        clear hn0
        go_enter Try.func13, Try.ntmps13
        go_wp2_with fail
        refine (hcnt _).mono ?_
        rintro e w1 ⟨rfl, m1⟩
        clear hcnt
        have hb1 := (m1.block _ (lt_of hb) (fun x => x)).trans hb
        have c0 : w1.cell? ⟨w.heap.size, 0, none⟩ = some (.int .i64 at_) := (cell_of hb1 0).trans rfl
        have c1 : w1.cell? ⟨w.heap.size, 1, none⟩ = some (.int .i64 2) := (cell_of hb1 1).trans rfl
        have M1 := Lib.hid (hm.trans m1)
        have k0 := cell_regrown c0
        have k1 := cell_regrown c1
        have cNone := fun d os => Calls.regrown_of (w := w1) (d := d) (os := os) ((none_any (grow (redrawn w1 d) os)).mono fun e w' ⟨q1, q2⟩ => ⟨q1, q2.below⟩)
        clear hb hm m1 d0 d1 hW hb1
        go_wp2
        refine wp_region_quiet_below (by kernel_rfl) (by kernel_rfl) ?_
        repeat (go_big_quiet_step ((go_at_call 31; exact cNone _ _)))
        refine wpQuiet_nil ?_
        intro _ hw'
        obtain ⟨⟨dq, osq⟩, hw''⟩ := hw'
        subst hw''
        have b0 := k0 dq osq
        have b1 := k1 dq osq
        have M2 : Hid (Mod (fun _ => False) w (grow (redrawn w1 dq) osq)) := M1.out.trans (Mod.of_below (below_regrown w1 dq osq))
        clear c0 c1 k0 k1 cNone M1
        generalize grow (redrawn w1 dq) osq = w2 at *
        go_wp2
        go_ret
        refine ⟨ret_bool ?_, M2.out⟩
        simp only [mayB, N0.out]
        (simp; omega)
      · have t2 : decide (16380 < at_) = false := by simp; omega
        obtain ⟨W, hW⟩ : ∃ W, w.alloc (.cells #[.int .i64 at_, .int .i64 2] 23) = W := ⟨_, rfl⟩
        have hb : W.heap[w.heap.size]? = some (.cells #[.int .i64 at_, .int .i64 2] 23 (0, 0)) := by subst hW; exact new_at _ _
        have hm : Mod (fun _ => False) w W := by subst hW; exact (Mod.refl _ w).alloc _
        have d0 : W.cell? ⟨w.heap.size, 0, none⟩ = some (.int .i64 at_) := (cell_of hb 0).trans rfl
        have d1 : W.cell? ⟨w.heap.size, 1, none⟩ = some (.int .i64 2) := (cell_of hb 1).trans rfl
        have hcnt := fun W => count_any at_ 2 W
        rw [hn0] at hcnt
        have N0 := Lib.hid hn0
        clear hn0
        go_enter Try.func13, Try.ntmps13
        go_wp2_with fail
        refine (hcnt _).mono ?_
        rintro e w1 ⟨rfl, m1⟩
        clear hcnt
        have hb1 := (m1.block _ (lt_of hb) (fun x => x)).trans hb
        have c0 : w1.cell? ⟨w.heap.size, 0, none⟩ = some (.int .i64 at_) := (cell_of hb1 0).trans rfl
        have c1 : w1.cell? ⟨w.heap.size, 1, none⟩ = some (.int .i64 2) := (cell_of hb1 1).trans rfl
        have M1 := Lib.hid (hm.trans m1)
        have k0 := cell_regrown c0
        have k1 := cell_regrown c1
        have cNone := fun d os => Calls.regrown_of (w := w1) (d := d) (os := os) ((none_any (grow (redrawn w1 d) os)).mono fun e w' ⟨q1, q2⟩ => ⟨q1, q2.below⟩)
        clear hb hm m1 d0 d1 hW hb1
        go_wp2
        refine wp_region_quiet_below (by kernel_rfl) (by kernel_rfl) ?_
        repeat (go_big_quiet_step ((go_at_call 31; exact cNone _ _)))
        refine wpQuiet_nil ?_
        intro _ hw'
        obtain ⟨⟨dq, osq⟩, hw''⟩ := hw'
        subst hw''
        have b0 := k0 dq osq
        have b1 := k1 dq osq
        have M2 : Hid (Mod (fun _ => False) w (grow (redrawn w1 dq) osq)) := M1.out.trans (Mod.of_below (below_regrown w1 dq osq))
        clear c0 c1 k0 k1 cNone M1
        generalize grow (redrawn w1 dq) osq = w2 at *
        go_wp2
        go_ret
        refine ⟨ret_bool ?_, M2.out⟩
        simp only [mayB, N0.out]
        (rw [Bool.eq_iff_iff]; simp; try omega)
  · by_cases h1 : at_ < 0
    · have t1 : decide (at_ < 0) = true := by simp [h1]
      obtain ⟨W, hW⟩ : ∃ W, w.alloc (.cells #[.int .i64 at_, .int .i64 3] 23) = W := ⟨_, rfl⟩
      have hb : W.heap[w.heap.size]? = some (.cells #[.int .i64 at_, .int .i64 3] 23 (0, 0)) := by subst hW; exact new_at _ _
      have hm : Mod (fun _ => False) w W := by subst hW; exact (Mod.refl _ w).alloc _
      have d0 : W.cell? ⟨w.heap.size, 0, none⟩ = some (.int .i64 at_) := (cell_of hb 0).trans rfl
      have d1 : W.cell? ⟨w.heap.size, 1, none⟩ = some (.int .i64 3) := (cell_of hb 1).trans rfl
      have hcnt := fun W => count_any at_ 3 W
      rw [hn0] at hcnt
      have N0 := Lib.hid hn0
      clear hn0
      go_enter Try.func13, Try.ntmps13
      go_wp2_with fail
      refine (hcnt _).mono ?_
      rintro e w1 ⟨rfl, m1⟩
      clear hcnt
      have hb1 := (m1.block _ (lt_of hb) (fun x => x)).trans hb
      have c0 : w1.cell? ⟨w.heap.size, 0, none⟩ = some (.int .i64 at_) := (cell_of hb1 0).trans rfl
      have c1 : w1.cell? ⟨w.heap.size, 1, none⟩ = some (.int .i64 3) := (cell_of hb1 1).trans rfl
      have M1 := Lib.hid (hm.trans m1)
      have k0 := cell_regrown c0
      have k1 := cell_regrown c1
      have cNone := fun d os => Calls.regrown_of (w := w1) (d := d) (os := os) ((none_any (grow (redrawn w1 d) os)).mono fun e w' ⟨q1, q2⟩ => ⟨q1, q2.below⟩)
      clear hb hm m1 d0 d1 hW hb1
      go_wp2
      refine wp_region_quiet_below (by kernel_rfl) (by kernel_rfl) ?_
      repeat (go_big_quiet_step ((go_at_call 31; exact cNone _ _)))
      refine wpQuiet_nil ?_
      intro _ hw'
      obtain ⟨⟨dq, osq⟩, hw''⟩ := hw'
      subst hw''
      have b0 := k0 dq osq
      have b1 := k1 dq osq
      have M2 : Hid (Mod (fun _ => False) w (grow (redrawn w1 dq) osq)) := M1.out.trans (Mod.of_below (below_regrown w1 dq osq))
      clear c0 c1 k0 k1 cNone M1
      generalize grow (redrawn w1 dq) osq = w2 at *
      go_wp2
      go_ret
      refine ⟨ret_bool ?_, M2.out⟩
      simp only [mayB, N0.out]
      (simp; omega)
    · have t1 : decide (at_ < 0) = false := by simp; omega
      by_cases h2 : 16376 < at_
      · have t2 : decide (16376 < at_) = true := by simp; omega
        obtain ⟨W, hW⟩ : ∃ W, w.alloc (.cells #[.int .i64 at_, .int .i64 3] 23) = W := ⟨_, rfl⟩
        have hb : W.heap[w.heap.size]? = some (.cells #[.int .i64 at_, .int .i64 3] 23 (0, 0)) := by subst hW; exact new_at _ _
        have hm : Mod (fun _ => False) w W := by subst hW; exact (Mod.refl _ w).alloc _
        have d0 : W.cell? ⟨w.heap.size, 0, none⟩ = some (.int .i64 at_) := (cell_of hb 0).trans rfl
        have d1 : W.cell? ⟨w.heap.size, 1, none⟩ = some (.int .i64 3) := (cell_of hb 1).trans rfl
        have hcnt := fun W => count_any at_ 3 W
        rw [hn0] at hcnt
        have N0 := Lib.hid hn0
        clear hn0
        go_enter Try.func13, Try.ntmps13
        go_wp2_with fail
        refine (hcnt _).mono ?_
        rintro e w1 ⟨rfl, m1⟩
        clear hcnt
        have hb1 := (m1.block _ (lt_of hb) (fun x => x)).trans hb
        have c0 : w1.cell? ⟨w.heap.size, 0, none⟩ = some (.int .i64 at_) := (cell_of hb1 0).trans rfl
        have c1 : w1.cell? ⟨w.heap.size, 1, none⟩ = some (.int .i64 3) := (cell_of hb1 1).trans rfl
        have M1 := Lib.hid (hm.trans m1)
        have k0 := cell_regrown c0
        have k1 := cell_regrown c1
        have cNone := fun d os => Calls.regrown_of (w := w1) (d := d) (os := os) ((none_any (grow (redrawn w1 d) os)).mono fun e w' ⟨q1, q2⟩ => ⟨q1, q2.below⟩)
        clear hb hm m1 d0 d1 hW hb1
        go_wp2
        refine wp_region_quiet_below (by kernel_rfl) (by kernel_rfl) ?_
        repeat (go_big_quiet_step ((go_at_call 31; exact cNone _ _)))
        refine wpQuiet_nil ?_
        intro _ hw'
        obtain ⟨⟨dq, osq⟩, hw''⟩ := hw'
        subst hw''
        have b0 := k0 dq osq
        have b1 := k1 dq osq
        have M2 : Hid (Mod (fun _ => False) w (grow (redrawn w1 dq) osq)) := M1.out.trans (Mod.of_below (below_regrown w1 dq osq))
        clear c0 c1 k0 k1 cNone M1
        generalize grow (redrawn w1 dq) osq = w2 at *
        go_wp2
        go_ret
        refine ⟨ret_bool ?_, M2.out⟩
        simp only [mayB, N0.out]
        (simp; omega)
      · have t2 : decide (16376 < at_) = false := by simp; omega
        obtain ⟨W, hW⟩ : ∃ W, w.alloc (.cells #[.int .i64 at_, .int .i64 3] 23) = W := ⟨_, rfl⟩
        have hb : W.heap[w.heap.size]? = some (.cells #[.int .i64 at_, .int .i64 3] 23 (0, 0)) := by subst hW; exact new_at _ _
        have hm : Mod (fun _ => False) w W := by subst hW; exact (Mod.refl _ w).alloc _
        have d0 : W.cell? ⟨w.heap.size, 0, none⟩ = some (.int .i64 at_) := (cell_of hb 0).trans rfl
        have d1 : W.cell? ⟨w.heap.size, 1, none⟩ = some (.int .i64 3) := (cell_of hb 1).trans rfl
        have hcnt := fun W => count_any at_ 3 W
        rw [hn0] at hcnt
        have N0 := Lib.hid hn0
        clear hn0
        go_enter Try.func13, Try.ntmps13
        go_wp2_with fail
        refine (hcnt _).mono ?_
        rintro e w1 ⟨rfl, m1⟩
        clear hcnt
        have hb1 := (m1.block _ (lt_of hb) (fun x => x)).trans hb
        have c0 : w1.cell? ⟨w.heap.size, 0, none⟩ = some (.int .i64 at_) := (cell_of hb1 0).trans rfl
        have c1 : w1.cell? ⟨w.heap.size, 1, none⟩ = some (.int .i64 3) := (cell_of hb1 1).trans rfl
        have M1 := Lib.hid (hm.trans m1)
        have k0 := cell_regrown c0
        have k1 := cell_regrown c1
        have cNone := fun d os => Calls.regrown_of (w := w1) (d := d) (os := os) ((none_any (grow (redrawn w1 d) os)).mono fun e w' ⟨q1, q2⟩ => ⟨q1, q2.below⟩)
        clear hb hm m1 d0 d1 hW hb1
        go_wp2
        refine wp_region_quiet_below (by kernel_rfl) (by kernel_rfl) ?_
        repeat (go_big_quiet_step ((go_at_call 31; exact cNone _ _)))
        refine wpQuiet_nil ?_
        intro _ hw'
        obtain ⟨⟨dq, osq⟩, hw''⟩ := hw'
        subst hw''
        have b0 := k0 dq osq
        have b1 := k1 dq osq
        have M2 : Hid (Mod (fun _ => False) w (grow (redrawn w1 dq) osq)) := M1.out.trans (Mod.of_below (below_regrown w1 dq osq))
        clear c0 c1 k0 k1 cNone M1
        generalize grow (redrawn w1 dq) osq = w2 at *
        go_wp2
        go_ret
        refine ⟨ret_bool ?_, M2.out⟩
        simp only [mayB, N0.out]
        (rw [Bool.eq_iff_iff]; simp; try omega)
  · by_cases h1 : at_ < 0
    · have t1 : decide (at_ < 0) = true := by simp [h1]
      obtain ⟨W, hW⟩ : ∃ W, w.alloc (.cells #[.int .i64 at_, .int .i64 4] 23) = W := ⟨_, rfl⟩
      have hb : W.heap[w.heap.size]? = some (.cells #[.int .i64 at_, .int .i64 4] 23 (0, 0)) := by subst hW; exact new_at _ _
      have hm : Mod (fun _ => False) w W := by subst hW; exact (Mod.refl _ w).alloc _
      have d0 : W.cell? ⟨w.heap.size, 0, none⟩ = some (.int .i64 at_) := (cell_of hb 0).trans rfl
      have d1 : W.cell? ⟨w.heap.size, 1, none⟩ = some (.int .i64 4) := (cell_of hb 1).trans rfl
      have hcnt := fun W => count_any at_ 4 W
      rw [hn0] at hcnt
      have N0 := Lib.hid hn0
      clear hn0
      go_enter Try.func13, Try.ntmps13
      go_wp2_with fail
      refine (hcnt _).mono ?_
      rintro e w1 ⟨rfl, m1⟩
      clear hcnt
      have hb1 := (m1.block _ (lt_of hb) (fun x => x)).trans hb
      have c0 : w1.cell? ⟨w.heap.size, 0, none⟩ = some (.int .i64 at_) := (cell_of hb1 0).trans rfl
      have c1 : w1.cell? ⟨w.heap.size, 1, none⟩ = some (.int .i64 4) := (cell_of hb1 1).trans rfl
      have M1 := Lib.hid (hm.trans m1)
      have k0 := cell_regrown c0
      have k1 := cell_regrown c1
      have cNone := fun d os => Calls.regrown_of (w := w1) (d := d) (os := os) ((none_any (grow (redrawn w1 d) os)).mono fun e w' ⟨q1, q2⟩ => ⟨q1, q2.below⟩)
      clear hb hm m1 d0 d1 hW hb1
      go_wp2
      refine wp_region_quiet_below (by kernel_rfl) (by kernel_rfl) ?_
      repeat (go_big_quiet_step ((go_at_call 31; exact cNone _ _)))
      refine wpQuiet_nil ?_
      intro _ hw'
      obtain ⟨⟨dq, osq⟩, hw''⟩ := hw'
      subst hw''
      have b0 := k0 dq osq
      have b1 := k1 dq osq
      have M2 : Hid (Mod (fun _ => False) w (grow (redrawn w1 dq) osq)) := M1.out.trans (Mod.of_below (below_regrown w1 dq osq))
      clear c0 c1 k0 k1 cNone M1
      generalize grow (redrawn w1 dq) osq = w2 at *
      go_wp2
      go_ret
      refine ⟨ret_bool ?_, M2.out⟩
      simp only [mayB, N0.out]
      (simp; omega)
    · have t1 : decide (at_ < 0) = false := by simp; omega
      by_cases h2 : 16368 < at_
      · have t2 : decide (16368 < at_) = true := by simp; omega
        obtain ⟨W, hW⟩ : ∃ W, w.alloc (.cells #[.int .i64 at_, .int .i64 4] 23) = W := ⟨_, rfl⟩
        have hb : W.heap[w.heap.size]? = some (.cells #[.int .i64 at_, .int .i64 4] 23 (0, 0)) := by subst hW; exact new_at _ _
        have hm : Mod (fun _ => False) w W := by subst hW; exact (Mod.refl _ w).alloc _
        have d0 : W.cell? ⟨w.heap.size, 0, none⟩ = some (.int .i64 at_) := (cell_of hb 0).trans rfl
        have d1 : W.cell? ⟨w.heap.size, 1, none⟩ = some (.int .i64 4) := (cell_of hb 1).trans rfl
        have hcnt := fun W => count_any at_ 4 W
        rw [hn0] at hcnt
        have N0 := Lib.hid hn0
        clear hn0
        go_enter Try.func13, Try.ntmps13
        go_wp2_with fail
        refine (hcnt _).mono ?_
        rintro e w1 ⟨rfl, m1⟩
        clear hcnt
        have hb1 := (m1.block _ (lt_of hb) (fun x => x)).trans hb
        have c0 : w1.cell? ⟨w.heap.size, 0, none⟩ = some (.int .i64 at_) := (cell_of hb1 0).trans rfl
        have c1 : w1.cell? ⟨w.heap.size, 1, none⟩ = some (.int .i64 4) := (cell_of hb1 1).trans rfl
        have M1 := Lib.hid (hm.trans m1)
        have k0 := cell_regrown c0
        have k1 := cell_regrown c1
        have cNone := fun d os => Calls.regrown_of (w := w1) (d := d) (os := os) ((none_any (grow (redrawn w1 d) os)).mono fun e w' ⟨q1, q2⟩ => ⟨q1, q2.below⟩)
        clear hb hm m1 d0 d1 hW hb1
        go_wp2
        refine wp_region_quiet_below (by kernel_rfl) (by kernel_rfl) ?_
        repeat (go_big_quiet_step ((go_at_call 31; exact cNone _ _)))
        refine wpQuiet_nil ?_
        intro _ hw'
        obtain ⟨⟨dq, osq⟩, hw''⟩ := hw'
        subst hw''
        have b0 := k0 dq osq
        have b1 := k1 dq osq
        have M2 : Hid (Mod (fun _ => False) w (grow (redrawn w1 dq) osq)) := M1.out.trans (Mod.of_below (below_regrown w1 dq osq))
        clear c0 c1 k0 k1 cNone M1
        generalize grow (redrawn w1 dq) osq = w2 at *
        go_wp2
        go_ret
        refine ⟨ret_bool ?_, M2.out⟩
        simp only [mayB, N0.out]
        (simp; omega)
      · have t2 : decide (16368 < at_) = false := by simp; omega
        obtain ⟨W, hW⟩ : ∃ W, w.alloc (.cells #[.int .i64 at_, .int .i64 4] 23) = W := ⟨_, rfl⟩
        have hb : W.heap[w.heap.size]? = some (.cells #[.int .i64 at_, .int .i64 4] 23 (0, 0)) := by subst hW; exact new_at _ _
        have hm : Mod (fun _ => False) w W := by subst hW; exact (Mod.refl _ w).alloc _
        have d0 : W.cell? ⟨w.heap.size, 0, none⟩ = some (.int .i64 at_) := (cell_of hb 0).trans rfl
        have d1 : W.cell? ⟨w.heap.size, 1, none⟩ = some (.int .i64 4) := (cell_of hb 1).trans rfl
        have hcnt := fun W => count_any at_ 4 W
        rw [hn0] at hcnt
        have N0 := Lib.hid hn0
        clear hn0
        go_enter Try.func13, Try.ntmps13
        go_wp2_with fail
        refine (hcnt _).mono ?_
        rintro e w1 ⟨rfl, m1⟩
        clear hcnt
        have hb1 := (m1.block _ (lt_of hb) (fun x => x)).trans hb
        have c0 : w1.cell? ⟨w.heap.size, 0, none⟩ = some (.int .i64 at_) := (cell_of hb1 0).trans rfl
        have c1 : w1.cell? ⟨w.heap.size, 1, none⟩ = some (.int .i64 4) := (cell_of hb1 1).trans rfl
        have M1 := Lib.hid (hm.trans m1)
        have k0 := cell_regrown c0
        have k1 := cell_regrown c1
        have cNone := fun d os => Calls.regrown_of (w := w1) (d := d) (os := os) ((none_any (grow (redrawn w1 d) os)).mono fun e w' ⟨q1, q2⟩ => ⟨q1, q2.below⟩)
        clear hb hm m1 d0 d1 hW hb1
        go_wp2
        refine wp_region_quiet_below (by kernel_rfl) (by kernel_rfl) ?_
        repeat (go_big_quiet_step ((go_at_call 31; exact cNone _ _)))
        refine wpQuiet_nil ?_
        intro _ hw'
        obtain ⟨⟨dq, osq⟩, hw''⟩ := hw'
        subst hw''
        have b0 := k0 dq osq
        have b1 := k1 dq osq
        have M2 : Hid (Mod (fun _ => False) w (grow (redrawn w1 dq) osq)) := M1.out.trans (Mod.of_below (below_regrown w1 dq osq))
        clear c0 c1 k0 k1 cNone M1
        generalize grow (redrawn w1 dq) osq = w2 at *
        go_wp2
        go_ret
        refine ⟨ret_bool ?_, M2.out⟩
        simp only [mayB, N0.out]
        (rw [Bool.eq_iff_iff]; simp; try omega)

set_option maxHeartbeats 1000000 in
theorem rmay_any (at_ c : Int) (w : World) : Calls Try.prog 24 #[.agg #[.int .i64 at_, .int .i64 c]] w fun e w' => e = .returned (.bool (mayB at_ c)) ∧ Mod (fun _ => False) w w' := by
  rcases nblk_cases c with ⟨hbad, hn0⟩ | ⟨rfl, hn0⟩ | ⟨rfl, hn0⟩ | ⟨rfl, hn0⟩ | ⟨rfl, hn0⟩ | ⟨rfl, hn0⟩
  · by_cases hC : c = -1
    · subst hC
      obtain ⟨W, hW⟩ : ∃ W, w.alloc (.cells #[.int .i64 at_, .int .i64 (-1)] 23) = W := ⟨_, rfl⟩
      have hb : W.heap[w.heap.size]? = some (.cells #[.int .i64 at_, .int .i64 (-1)] 23 (0, 0)) := by subst hW; exact new_at _ _
      have M2 : Hid (Mod (fun _ => False) w W) := by subst hW; exact (Mod.refl _ w).alloc _
      have d0 : W.cell? ⟨w.heap.size, 0, none⟩ = some (.int .i64 at_) := (cell_of hb 0).trans rfl
      have d1 : W.cell? ⟨w.heap.size, 1, none⟩ = some (.int .i64 (-1)) := (cell_of hb 1).trans rfl
      have N0 := Lib.hid hn0
      clear hn0 hb
      go_enter Try.func24, Try.ntmps24
      go_wp2
      go_ret
      refine ⟨ret_bool ?_, M2.out⟩
      simp only [mayB, N0.out]
      (rw [Bool.eq_iff_iff]; simp)
    · have s1 : (c == -1) = false := by simp [hC]
      by_cases h1 : c < 0
      · have t1 : decide (c < 0) = true := by simp [h1]
        obtain ⟨W, hW⟩ : ∃ W, w.alloc (.cells #[.int .i64 at_, .int .i64 c] 23) = W := ⟨_, rfl⟩
        have hb : W.heap[w.heap.size]? = some (.cells #[.int .i64 at_, .int .i64 c] 23 (0, 0)) := by subst hW; exact new_at _ _
        have M2 : Hid (Mod (fun _ => False) w W) := by subst hW; exact (Mod.refl _ w).alloc _
        have d0 : W.cell? ⟨w.heap.size, 0, none⟩ = some (.int .i64 at_) := (cell_of hb 0).trans rfl
        have d1 : W.cell? ⟨w.heap.size, 1, none⟩ = some (.int .i64 c) := (cell_of hb 1).trans rfl
        have N0 := Lib.hid hn0
        clear hn0 hb
        go_enter Try.func24, Try.ntmps24
        go_wp2
        go_ret
        refine ⟨ret_bool ?_, M2.out⟩
        simp only [mayB, N0.out]
        (simp [hC])
      · have t1 : decide (c < 0) = false := by simp; omega
        have t2 : decide (4 < c) = true := by simp; omega
        obtain ⟨W, hW⟩ : ∃ W, w.alloc (.cells #[.int .i64 at_, .int .i64 c] 23) = W := ⟨_, rfl⟩
        have hb : W.heap[w.heap.size]? = some (.cells #[.int .i64 at_, .int .i64 c] 23 (0, 0)) := by subst hW; exact new_at _ _
        have M2 : Hid (Mod (fun _ => False) w W) := by subst hW; exact (Mod.refl _ w).alloc _
        have d0 : W.cell? ⟨w.heap.size, 0, none⟩ = some (.int .i64 at_) := (cell_of hb 0).trans rfl
        have d1 : W.cell? ⟨w.heap.size, 1, none⟩ = some (.int .i64 c) := (cell_of hb 1).trans rfl
        have N0 := Lib.hid hn0
        clear hn0 hb
        go_enter Try.func24, Try.ntmps24
        go_wp2
        go_ret
        refine ⟨ret_bool ?_, M2.out⟩
        simp only [mayB, N0.out]
        (simp [hC])
  · by_cases h1 : at_ < 0
    · have t1 : decide (at_ < 0) = true := by simp [h1]
      obtain ⟨W, hW⟩ : ∃ W, w.alloc (.cells #[.int .i64 at_, .int .i64 0] 23) = W := ⟨_, rfl⟩
      have hb : W.heap[w.heap.size]? = some (.cells #[.int .i64 at_, .int .i64 0] 23 (0, 0)) := by subst hW; exact new_at _ _
      have M2 : Hid (Mod (fun _ => False) w W) := by subst hW; exact (Mod.refl _ w).alloc _
      have d0 : W.cell? ⟨w.heap.size, 0, none⟩ = some (.int .i64 at_) := (cell_of hb 0).trans rfl
      have d1 : W.cell? ⟨w.heap.size, 1, none⟩ = some (.int .i64 0) := (cell_of hb 1).trans rfl
      have N0 := Lib.hid hn0
      clear hn0 hb
      go_enter Try.func24, Try.ntmps24
      go_wp2
      go_ret
      refine ⟨ret_bool ?_, M2.out⟩
      simp only [mayB, N0.out]
      (simp; omega)
    · have t1 : decide (at_ < 0) = false := by simp; omega
      by_cases h2 : 16384 ≤ at_
      · have t2 : decide (16384 ≤ at_) = true := by simp; omega
        obtain ⟨W, hW⟩ : ∃ W, w.alloc (.cells #[.int .i64 at_, .int .i64 0] 23) = W := ⟨_, rfl⟩
        have hb : W.heap[w.heap.size]? = some (.cells #[.int .i64 at_, .int .i64 0] 23 (0, 0)) := by subst hW; exact new_at _ _
        have M2 : Hid (Mod (fun _ => False) w W) := by subst hW; exact (Mod.refl _ w).alloc _
        have d0 : W.cell? ⟨w.heap.size, 0, none⟩ = some (.int .i64 at_) := (cell_of hb 0).trans rfl
        have d1 : W.cell? ⟨w.heap.size, 1, none⟩ = some (.int .i64 0) := (cell_of hb 1).trans rfl
        have N0 := Lib.hid hn0
        clear hn0 hb
        go_enter Try.func24, Try.ntmps24
        go_wp2
        go_ret
        refine ⟨ret_bool ?_, M2.out⟩
        simp only [mayB, N0.out]
        (simp; omega)
      · have t2 : decide (16384 ≤ at_) = false := by simp; omega
        have t3 : (at_ % 1 == 0) = true := by simp
        obtain ⟨W, hW⟩ : ∃ W, w.alloc (.cells #[.int .i64 at_, .int .i64 0] 23) = W := ⟨_, rfl⟩
        have hb : W.heap[w.heap.size]? = some (.cells #[.int .i64 at_, .int .i64 0] 23 (0, 0)) := by subst hW; exact new_at _ _
        have M2 : Hid (Mod (fun _ => False) w W) := by subst hW; exact (Mod.refl _ w).alloc _
        have d0 : W.cell? ⟨w.heap.size, 0, none⟩ = some (.int .i64 at_) := (cell_of hb 0).trans rfl
        have d1 : W.cell? ⟨w.heap.size, 1, none⟩ = some (.int .i64 0) := (cell_of hb 1).trans rfl
        have N0 := Lib.hid hn0
        clear hn0 hb
        go_enter Try.func24, Try.ntmps24
        go_wp2
        go_ret
        refine ⟨ret_bool ?_, M2.out⟩
        simp only [mayB, N0.out]
        (rw [Bool.eq_iff_iff]; simp; try omega)
  · by_cases h1 : at_ < 0
    · have t1 : decide (at_ < 0) = true := by simp [h1]
      obtain ⟨W, hW⟩ : ∃ W, w.alloc (.cells #[.int .i64 at_, .int .i64 1] 23) = W := ⟨_, rfl⟩
      have hb : W.heap[w.heap.size]? = some (.cells #[.int .i64 at_, .int .i64 1] 23 (0, 0)) := by subst hW; exact new_at _ _
      have M2 : Hid (Mod (fun _ => False) w W) := by subst hW; exact (Mod.refl _ w).alloc _
      have d0 : W.cell? ⟨w.heap.size, 0, none⟩ = some (.int .i64 at_) := (cell_of hb 0).trans rfl
      have d1 : W.cell? ⟨w.heap.size, 1, none⟩ = some (.int .i64 1) := (cell_of hb 1).trans rfl
      have N0 := Lib.hid hn0
      clear hn0 hb
      go_enter Try.func24, Try.ntmps24
      go_wp2
      go_ret
      refine ⟨ret_bool ?_, M2.out⟩
      simp only [mayB, N0.out]
      (simp; omega)
    · have t1 : decide (at_ < 0) = false := by simp; omega
      by_cases h2 : 16384 ≤ at_
      · have t2 : decide (16384 ≤ at_) = true := by simp; omega
        obtain ⟨W, hW⟩ : ∃ W, w.alloc (.cells #[.int .i64 at_, .int .i64 1] 23) = W := ⟨_, rfl⟩
        have hb : W.heap[w.heap.size]? = some (.cells #[.int .i64 at_, .int .i64 1] 23 (0, 0)) := by subst hW; exact new_at _ _
        have M2 : Hid (Mod (fun _ => False) w W) := by subst hW; exact (Mod.refl _ w).alloc _
        have d0 : W.cell? ⟨w.heap.size, 0, none⟩ = some (.int .i64 at_) := (cell_of hb 0).trans rfl
        have d1 : W.cell? ⟨w.heap.size, 1, none⟩ = some (.int .i64 1) := (cell_of hb 1).trans rfl
        have N0 := Lib.hid hn0
        clear hn0 hb
        go_enter Try.func24, Try.ntmps24
        go_wp2
        go_ret
        refine ⟨ret_bool ?_, M2.out⟩
        simp only [mayB, N0.out]
        (simp; omega)
      · have t2 : decide (16384 ≤ at_) = false := by simp; omega
        by_cases h3 : at_ % 2 = 0
        · have t3 : (at_ % 2 == 0) = true := by simp [h3]
          obtain ⟨W, hW⟩ : ∃ W, w.alloc (.cells #[.int .i64 at_, .int .i64 1] 23) = W := ⟨_, rfl⟩
          have hb : W.heap[w.heap.size]? = some (.cells #[.int .i64 at_, .int .i64 1] 23 (0, 0)) := by subst hW; exact new_at _ _
          have M2 : Hid (Mod (fun _ => False) w W) := by subst hW; exact (Mod.refl _ w).alloc _
          have d0 : W.cell? ⟨w.heap.size, 0, none⟩ = some (.int .i64 at_) := (cell_of hb 0).trans rfl
          have d1 : W.cell? ⟨w.heap.size, 1, none⟩ = some (.int .i64 1) := (cell_of hb 1).trans rfl
          have N0 := Lib.hid hn0
          clear hn0 hb
          go_enter Try.func24, Try.ntmps24
          go_wp2
          go_ret
          refine ⟨ret_bool ?_, M2.out⟩
          simp only [mayB, N0.out]
          (rw [Bool.eq_iff_iff]; simp; try omega)
        · have t3 : (at_ % 2 == 0) = false := by simp [h3]
          obtain ⟨W, hW⟩ : ∃ W, w.alloc (.cells #[.int .i64 at_, .int .i64 1] 23) = W := ⟨_, rfl⟩
          have hb : W.heap[w.heap.size]? = some (.cells #[.int .i64 at_, .int .i64 1] 23 (0, 0)) := by subst hW; exact new_at _ _
          have M2 : Hid (Mod (fun _ => False) w W) := by subst hW; exact (Mod.refl _ w).alloc _
          have d0 : W.cell? ⟨w.heap.size, 0, none⟩ = some (.int .i64 at_) := (cell_of hb 0).trans rfl
          have d1 : W.cell? ⟨w.heap.size, 1, none⟩ = some (.int .i64 1) := (cell_of hb 1).trans rfl
          have N0 := Lib.hid hn0
          clear hn0 hb
          go_enter Try.func24, Try.ntmps24
          go_wp2
          go_ret
          refine ⟨ret_bool ?_, M2.out⟩
          simp only [mayB, N0.out]
          (simp; omega)
  · by_cases h1 : at_ < 0
    · have t1 : decide (at_ < 0) = true := by simp [h1]
      obtain ⟨W, hW⟩ : ∃ W, w.alloc (.cells #[.int .i64 at_, .int .i64 2] 23) = W := ⟨_, rfl⟩
      have hb : W.heap[w.heap.size]? = some (.cells #[.int .i64 at_, .int .i64 2] 23 (0, 0)) := by subst hW; exact new_at _ _
      have M2 : Hid (Mod (fun _ => False) w W) := by subst hW; exact (Mod.refl _ w).alloc _
      have d0 : W.cell? ⟨w.heap.size, 0, none⟩ = some (.int .i64 at_) := (cell_of hb 0).trans rfl
      have d1 : W.cell? ⟨w.heap.size, 1, none⟩ = some (.int .i64 2) := (cell_of hb 1).trans rfl
      have N0 := Lib.hid hn0
      clear hn0 hb
      go_enter Try.func24, Try.ntmps24
      go_wp2
      go_ret
      refine ⟨ret_bool ?_, M2.out⟩
      simp only [mayB, N0.out]
      (simp; omega)
    · have t1 : decide (at_ < 0) = false := by simp; omega
      by_cases h2 : 16384 ≤ at_
      · have t2 : decide (16384 ≤ at_) = true := by simp; omega
        obtain ⟨W, hW⟩ : ∃ W, w.alloc (.cells #[.int .i64 at_, .int .i64 2] 23) = W := ⟨_, rfl⟩
        have hb : W.heap[w.heap.size]? = some (.cells #[.int .i64 at_, .int .i64 2] 23 (0, 0)) := by subst hW; exact new_at _ _
        have M2 : Hid (Mod (fun _ => False) w W) := by subst hW; exact (Mod.refl _ w).alloc _
        have d0 : W.cell? ⟨w.heap.size, 0, none⟩ = some (.int .i64 at_) := (cell_of hb 0).trans rfl
        have d1 : W.cell? ⟨w.heap.size, 1, none⟩ = some (.int .i64 2) := (cell_of hb 1).trans rfl
        have N0 := Lib.hid hn0
        clear hn0 hb
        go_enter Try.func24, Try.ntmps24
        go_wp2
        go_ret
        refine ⟨ret_bool ?_, M2.out⟩
        simp only [mayB, N0.out]
        (simp; omega)
      · have t2 : decide (16384 ≤ at_) = false := by simp; omega
        by_cases h3 : at_ % 4 = 0
        · have t3 : (at_ % 4 == 0) = true := by simp [h3]
          obtain ⟨W, hW⟩ : ∃ W, w.alloc (.cells #[.int .i64 at_, .int .i64 2] 23) = W := ⟨_, rfl⟩
          have hb : W.heap[w.heap.size]? = some (.cells #[.int .i64 at_, .int .i64 2] 23 (0, 0)) := by subst hW; exact new_at _ _
          have M2 : Hid (Mod (fun _ => False) w W) := by subst hW; exact (Mod.refl _ w).alloc _
          have d0 : W.cell? ⟨w.heap.size, 0, none⟩ = some (.int .i64 at_) := (cell_of hb 0).trans rfl
          have d1 : W.cell? ⟨w.heap.size, 1, none⟩ = some (.int .i64 2) := (cell_of hb 1).trans rfl
          have N0 := Lib.hid hn0
          clear hn0 hb
          go_enter Try.func24, Try.ntmps24
          go_wp2
          go_ret
          refine ⟨ret_bool ?_, M2.out⟩
          simp only [mayB, N0.out]
          (rw [Bool.eq_iff_iff]; simp; try omega)
        · have t3 : (at_ % 4 == 0) = false := by simp [h3]
          obtain ⟨W, hW⟩ : ∃ W, w.alloc (.cells #[.int .i64 at_, .int .i64 2] 23) = W := ⟨_, rfl⟩
          have hb : W.heap[w.heap.size]? = some (.cells #[.int .i64 at_, .int .i64 2] 23 (0, 0)) := by subst hW; exact new_at _ _
          have M2 : Hid (Mod (fun _ => False) w W) := by subst hW; exact (Mod.refl _ w).alloc _
          have d0 : W.cell? ⟨w.heap.size, 0, none⟩ = some (.int .i64 at_) := (cell_of hb 0).trans rfl
          have d1 : W.cell? ⟨w.heap.size, 1, none⟩ = some (.int .i64 2) := (cell_of hb 1).trans rfl
          have N0 := Lib.hid hn0
          clear hn0 hb
          go_enter Try.func24, Try.ntmps24
          go_wp2
          go_ret
          refine ⟨ret_bool ?_, M2.out⟩
          simp only [mayB, N0.out]
          (simp; omega)
  · by_cases h1 : at_ < 0
    · have t1 : decide (at_ < 0) = true := by simp [h1]
      obtain ⟨W, hW⟩ : ∃ W, w.alloc (.cells #[.int .i64 at_, .int .i64 3] 23) = W := ⟨_, rfl⟩
      have hb : W.heap[w.heap.size]? = some (.cells #[.int .i64 at_, .int .i64 3] 23 (0, 0)) := by subst hW; exact new_at _ _
      have M2 : Hid (Mod (fun _ => False) w W) := by subst hW; exact (Mod.refl _ w).alloc _
      have d0 : W.cell? ⟨w.heap.size, 0, none⟩ = some (.int .i64 at_) := (cell_of hb 0).trans rfl
      have d1 : W.cell? ⟨w.heap.size, 1, none⟩ = some (.int .i64 3) := (cell_of hb 1).trans rfl
      have N0 := Lib.hid hn0
      clear hn0 hb
      go_enter Try.func24, Try.ntmps24
      go_wp2
      go_ret
      refine ⟨ret_bool ?_, M2.out⟩
      simp only [mayB, N0.out]
      (simp; omega)
    · have t1 : decide (at_ < 0) = false := by simp; omega
      by_cases h2 : 16384 ≤ at_
      · have t2 : decide (16384 ≤ at_) = true := by simp; omega
        obtain ⟨W, hW⟩ : ∃ W, w.alloc (.cells #[.int .i64 at_, .int .i64 3] 23) = W := ⟨_, rfl⟩
        have hb : W.heap[w.heap.size]? = some (.cells #[.int .i64 at_, .int .i64 3] 23 (0, 0)) := by subst hW; exact new_at _ _
        have M2 : Hid (Mod (fun _ => False) w W) := by subst hW; exact (Mod.refl _ w).alloc _
        have d0 : W.cell? ⟨w.heap.size, 0, none⟩ = some (.int .i64 at_) := (cell_of hb 0).trans rfl
        have d1 : W.cell? ⟨w.heap.size, 1, none⟩ = some (.int .i64 3) := (cell_of hb 1).trans rfl
        have N0 := Lib.hid hn0
        clear hn0 hb
        go_enter Try.func24, Try.ntmps24
        go_wp2
        go_ret
        refine ⟨ret_bool ?_, M2.out⟩
        simp only [mayB, N0.out]
        (simp; omega)
      · have t2 : decide (16384 ≤ at_) = false := by simp; omega
        by_cases h3 : at_ % 8 = 0
        · have t3 : (at_ % 8 == 0) = true := by simp [h3]
          obtain ⟨W, hW⟩ : ∃ W, w.alloc (.cells #[.int .i64 at_, .int .i64 3] 23) = W := ⟨_, rfl⟩
          have hb : W.heap[w.heap.size]? = some (.cells #[.int .i64 at_, .int .i64 3] 23 (0, 0)) := by subst hW; exact new_at _ _
          have M2 : Hid (Mod (fun _ => False) w W) := by subst hW; exact (Mod.refl _ w).alloc _
          have d0 : W.cell? ⟨w.heap.size, 0, none⟩ = some (.int .i64 at_) := (cell_of hb 0).trans rfl
          have d1 : W.cell? ⟨w.heap.size, 1, none⟩ = some (.int .i64 3) := (cell_of hb 1).trans rfl
          have N0 := Lib.hid hn0
          clear hn0 hb
          go_enter Try.func24, Try.ntmps24
          go_wp2
          go_ret
          refine ⟨ret_bool ?_, M2.out⟩
          simp only [mayB, N0.out]
          (rw [Bool.eq_iff_iff]; simp; try omega)
        · have t3 : (at_ % 8 == 0) = false := by simp [h3]
          obtain ⟨W, hW⟩ : ∃ W, w.alloc (.cells #[.int .i64 at_, .int .i64 3] 23) = W := ⟨_, rfl⟩
          have hb : W.heap[w.heap.size]? = some (.cells #[.int .i64 at_, .int .i64 3] 23 (0, 0)) := by subst hW; exact new_at _ _
          have M2 : Hid (Mod (fun _ => False) w W) := by subst hW; exact (Mod.refl _ w).alloc _
          have d0 : W.cell? ⟨w.heap.size, 0, none⟩ = some (.int .i64 at_) := (cell_of hb 0).trans rfl
          have d1 : W.cell? ⟨w.heap.size, 1, none⟩ = some (.int .i64 3) := (cell_of hb 1).trans rfl
          have N0 := Lib.hid hn0
          clear hn0 hb
          go_enter Try.func24, Try.ntmps24
          go_wp2
          go_ret
          refine ⟨ret_bool ?_, M2.out⟩
          simp only [mayB, N0.out]
          (simp; omega)
  · by_cases h1 : at_ < 0
    · have t1 : decide (at_ < 0) = true := by simp [h1]
      obtain ⟨W, hW⟩ : ∃ W, w.alloc (.cells #[.int .i64 at_, .int .i64 4] 23) = W := ⟨_, rfl⟩
      have hb : W.heap[w.heap.size]? = some (.cells #[.int .i64 at_, .int .i64 4] 23 (0, 0)) := by subst hW; exact new_at _ _
      have M2 : Hid (Mod (fun _ => False) w W) := by subst hW; exact (Mod.refl _ w).alloc _
      have d0 : W.cell? ⟨w.heap.size, 0, none⟩ = some (.int .i64 at_) := (cell_of hb 0).trans rfl
      have d1 : W.cell? ⟨w.heap.size, 1, none⟩ = some (.int .i64 4) := (cell_of hb 1).trans rfl
      have N0 := Lib.hid hn0
      clear hn0 hb
      go_enter Try.func24, Try.ntmps24
      go_wp2
      go_ret
      refine ⟨ret_bool ?_, M2.out⟩
      simp only [mayB, N0.out]
      (simp; omega)
    · have t1 : decide (at_ < 0) = false := by simp; omega
      by_cases h2 : 16384 ≤ at_
      · have t2 : decide (16384 ≤ at_) = true := by simp; omega
        obtain ⟨W, hW⟩ : ∃ W, w.alloc (.cells #[.int .i64 at_, .int .i64 4] 23) = W := ⟨_, rfl⟩
        have hb : W.heap[w.heap.size]? = some (.cells #[.int .i64 at_, .int .i64 4] 23 (0, 0)) := by subst hW; exact new_at _ _
        have M2 : Hid (Mod (fun _ => False) w W) := by subst hW; exact (Mod.refl _ w).alloc _
        have d0 : W.cell? ⟨w.heap.size, 0, none⟩ = some (.int .i64 at_) := (cell_of hb 0).trans rfl
        have d1 : W.cell? ⟨w.heap.size, 1, none⟩ = some (.int .i64 4) := (cell_of hb 1).trans rfl
        have N0 := Lib.hid hn0
        clear hn0 hb
        go_enter Try.func24, Try.ntmps24
        go_wp2
        go_ret
        refine ⟨ret_bool ?_, M2.out⟩
        simp only [mayB, N0.out]
        (simp; omega)
      · have t2 : decide (16384 ≤ at_) = false := by simp; omega
        by_cases h3 : at_ % 16 = 0
        · have t3 : (at_ % 16 == 0) = true := by simp [h3]
          obtain ⟨W, hW⟩ : ∃ W, w.alloc (.cells #[.int .i64 at_, .int .i64 4] 23) = W := ⟨_, rfl⟩
          have hb : W.heap[w.heap.size]? = some (.cells #[.int .i64 at_, .int .i64 4] 23 (0, 0)) := by subst hW; exact new_at _ _
          have M2 : Hid (Mod (fun _ => False) w W) := by subst hW; exact (Mod.refl _ w).alloc _
          have d0 : W.cell? ⟨w.heap.size, 0, none⟩ = some (.int .i64 at_) := (cell_of hb 0).trans rfl
          have d1 : W.cell? ⟨w.heap.size, 1, none⟩ = some (.int .i64 4) := (cell_of hb 1).trans rfl
          have N0 := Lib.hid hn0
          clear hn0 hb
          go_enter Try.func24, Try.ntmps24
          go_wp2
          go_ret
          refine ⟨ret_bool ?_, M2.out⟩
          simp only [mayB, N0.out]
          (rw [Bool.eq_iff_iff]; simp; try omega)
        · have t3 : (at_ % 16 == 0) = false := by simp [h3]
          obtain ⟨W, hW⟩ : ∃ W, w.alloc (.cells #[.int .i64 at_, .int .i64 4] 23) = W := ⟨_, rfl⟩
          have hb : W.heap[w.heap.size]? = some (.cells #[.int .i64 at_, .int .i64 4] 23 (0, 0)) := by subst hW; exact new_at _ _
          have M2 : Hid (Mod (fun _ => False) w W) := by subst hW; exact (Mod.refl _ w).alloc _
          have d0 : W.cell? ⟨w.heap.size, 0, none⟩ = some (.int .i64 at_) := (cell_of hb 0).trans rfl
          have d1 : W.cell? ⟨w.heap.size, 1, none⟩ = some (.int .i64 4) := (cell_of hb 1).trans rfl
          have N0 := Lib.hid hn0
          clear hn0 hb
          go_enter Try.func24, Try.ntmps24
          go_wp2
          go_ret
          refine ⟨ret_bool ?_, M2.out⟩
          simp only [mayB, N0.out]
          (simp; omega)
end Go.Proofs.Ytfmlgleeojblkaa
