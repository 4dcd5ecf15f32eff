/- The document's Class, count and Fit. -/
import Derived.Test.YtfmlgleeojblkaaExtFit2
import Derived.Test.YtfmlgleeojblkaaExtRef
namespace Go.Proofs.Ytfmlgleeojblkaa
open Go.RowKit

theorem rclass_any (x : Int) (w : World) : Calls Try.prog 23 #[.int .i64 x] w fun e w' => e = .returned (.tuple #[.int .i64 (classR x).1, .int .i64 (classR x).2]) ∧ w' = w := by
  by_cases h1 : x < 0
  · have t1 : decide (x < 0) = true := by simp [h1]
    rw [show classR x = (0, 2) from if_pos h1]
    go_enter Try.func23, Try.ntmps23
    go_wp2
    go_ret2
    exact ⟨rfl, rfl⟩
  have t1 : decide (x < 0) = false := by simp; omega
  by_cases h2 : 7168 < x
  · have t2 : decide (7168 < x) = true := by simp [h2]
    rw [show classR x = (0, 4) from by unfold classR; rw [if_neg h1, if_pos h2]]
    go_enter Try.func23, Try.ntmps23
    go_wp2
    go_ret2
    exact ⟨rfl, rfl⟩
  have t2 : decide (7168 < x) = false := by simp; omega
  rw [show classR x = (cls x, 0) from by unfold classR; rw [if_neg h1, if_neg h2]]
  go_enter Try.func23, Try.ntmps23
  go_wp2
  go_loop [4] (fun i => ∃ j : Nat, j ≤ 5 ∧ i = .int .i64 ((j : Int) - 1) ∧ (j : Int) ≤ cls x + 1) (fun i => (5 - intOf i).toNat)
  case atStart => exact ⟨0, Nat.zero_le _, rfl, by have := cls_le x; omega⟩
  case round =>
    obtain ⟨j, hj, rfl, hc⟩ := hrel
    have hst := cls_step x j (by omega) hj hc
    have hnb := nblk_le ((j : Int) - 1)
    have hrm := fun W => rroom_any ((j : Int) - 1) W
    generalize nblk ((j : Int) - 1) = nb at *
    obtain ⟨R, hR⟩ : ∃ R, 448 * nb = R := ⟨_, rfl⟩
    rw [hR] at hst hrm
    rcases hst with ⟨h3, h4, h5⟩ | ⟨h3, h4⟩
    · have t3 : decide ((R : Int) < x) = true := by simp [h3]
      go_wp2_with fail
      refine (hrm _).mono ?_
      rintro e w1 ⟨rfl, rfl⟩
      go_wp2
      go_round
      case rel => exact ⟨j + 1, h5, by congr 1; simp, h4⟩
      case measure => simp [intOf]; omega
    · have t3 : decide ((R : Int) < x) = false := by simp; omega
      go_wp2_with fail
      refine (hrm _).mono ?_
      rintro e w1 ⟨rfl, rfl⟩
      go_wp2
      go_ret2
      exact ⟨by rw [h4]; rfl, rfl⟩

theorem rcount_any (a c : Int) (hc : c ≤ 4) (w : World) : Calls Try.prog 36 #[.agg #[.int .i64 a, .int .i64 c]] w fun e w' => e = .returned (.int .i64 (nblk c)) ∧ Mod (fun _ => False) w w' := by
  by_cases h1 : c < 0
  · have t1 : decide (c < 0) = true := by simp [h1]
    rw [nblk_bad (Or.inl h1)]
    go_enter Try.func36, Try.ntmps36
    go_wp2
    go_ret
    exact ⟨rfl, (Mod.refl _ w).alloc _⟩
  · have t1 : decide (c < 0) = false := by simp; omega
    rcases (show c = 0 ∨ c = 1 ∨ c = 2 ∨ c = 3 ∨ c = 4 from by omega) with rfl | rfl | rfl | rfl | rfl
    all_goals
      go_enter Try.func36, Try.ntmps36
      go_wp2
      go_ret
      exact ⟨rfl, (Mod.refl _ w).alloc _⟩

set_option maxRecDepth 100000 in
set_option maxHeartbeats 4000000 in
theorem rfit_any (r g N cap : Nat) (T : Nat → Bool) (X c bytes : Int) (w : World) (h : RefW w r g N cap T) (hX : I64' X) (hc : I64' c) (hby : I64' bytes) :
    Calls Try.prog 16 #[.pointer (some ⟨r, 0, none⟩), .agg #[.int .i64 X, .int .i64 c], .int .i64 bytes] w fun e w' =>
      e = .returned (.tuple #[.agg #[.int .i64 (fitR N T X c bytes).1.1, .int .i64 (fitR N T X c bytes).1.2], .int .i64 (fitR N T X c bytes).2.1]) ∧ RefW w' r g N cap (fitR N T X c bytes).2.2 ∧ Mod (· = g) w w' := by
  have hn1 := h.at_.n1
  have hn2 := h.at_.n2
  have hm16 : nblk c ≤ 16 := nblk_le c
  obtain ⟨W, hW⟩ : ∃ W, (w.alloc (.cells #[.int .i64 X, .int .i64 c] 23)).alloc (.cells #[.int .i64 0, .int .i64 0] 23) = W := ⟨_, rfl⟩
  have hbx : W.heap[w.heap.size]? = some (.cells #[.int .i64 X, .int .i64 c] 23 (0, 0)) := by subst hW; exact alloc_keep (new_at _ _)
  have hbr : W.heap[w.heap.size + 1]? = some (.cells #[.int .i64 0, .int .i64 0] 23 (0, 0)) := by subst hW; exact new_at' _ _ _ (by simp)
  have hMW : Mod (fun _ => False) w W := by subst hW; exact ((Mod.refl _ w).alloc _).alloc _
  have HB := Lib.hid (h.mod hMW (fun x => x) (fun x => x))
  have hgl : g < w.heap.size := h.at_.hg
  have hbw : r < w.heap.size := lt_of h.at_.hb
  have d0 : W.cell? ⟨w.heap.size, 0, none⟩ = some (.int .i64 X) := (cell_of hbx 0).trans rfl
  have d1 : W.cell? ⟨w.heap.size, 1, none⟩ = some (.int .i64 c) := (cell_of hbx 1).trans rfl
  have hmayc := fun W => rmay_any X c W
  have hclc := fun W => rclass_any bytes W
  clear h
  go_enter Try.func16, Try.ntmps16
  go_wp2_with fail
  refine (hmayc _).mono ?_
  rintro e w2 ⟨rfl, m2⟩
  have HX2 := Lib.hid ((m2.block _ (lt_of hbx) (fun x => x)).trans hbx)
  have HR2 := Lib.hid ((m2.block _ (lt_of hbr) (fun x => x)).trans hbr)
  have HB2 := Lib.hid (HB.out.mod m2 (fun x => x) (fun x => x))
  have HM2 : Hid (Mod (· = g) w w2) := (hMW.trans m2).mono (fun _ _ x => x.elim)
  clear hmayc hbx hbr d0 d1 hMW HB m2 hW
  cases hm : mayB X c with
  | false =>
    have hv : fitR N T X c bytes = ((0, 0), 2, T) := by unfold fitR; rw [if_pos hm]
    have r0 : (w2).cell? ⟨w.heap.size + 1, 0, none⟩ = some (.int .i64 0) := (cell_of (HR2).out 0).trans rfl
    have r1 : (w2).cell? ⟨w.heap.size + 1, 1, none⟩ = some (.int .i64 0) := (cell_of (HR2).out 1).trans rfl
    have rf0 : (w2).frozen? ⟨w.heap.size + 1, 0, none⟩ = false := free_of (HR2).out 0
    have rf1 : (w2).frozen? ⟨w.heap.size + 1, 1, none⟩ = false := free_of (HR2).out 1
    go_wp2
    obtain ⟨W6, hW6⟩ : ∃ W6, (((w2).setCell ⟨w.heap.size + 1, 0, none⟩ (.int .i64 0)).setCell ⟨w.heap.size + 1, 1, none⟩ (.int .i64 0)) = W6 := ⟨_, rfl⟩
    have h6 : W6.heap[w.heap.size + 1]? = some (.cells #[.int .i64 0, .int .i64 0] 23 (0, 0)) := by subst hW6; exact heap_set (heap_set (HR2).out 0 _) 1 _
    have hm6 : Mod (· = w.heap.size + 1) w2 W6 := by subst hW6; exact (Mod.set1 _ _ 0 _).trans (Mod.set1 _ _ 1 _)
    rw [hW6]
    have z0 : W6.cell? ⟨w.heap.size + 1, 0, none⟩ = some (.int .i64 0) := (cell_of h6 0).trans rfl
    have z1 : W6.cell? ⟨w.heap.size + 1, 1, none⟩ = some (.int .i64 0) := (cell_of h6 1).trans rfl
    refine bodyPost_ret (v := .tuple #[.agg #[.int .i64 0, .int .i64 0], .int .i64 2]) ?_ rfl ⟨by first | (rw [hv]; done) | rfl, by (try rw [hv]); exact (HB2).out.mod hm6 (by omega) (by omega), (HM2).out.trans' hm6 (fun j hj e => by omega)⟩
    simp [results, Try.f16, go_sem, z0, z1]
  | true =>
    have hXb := mayB_lo' hm
    obtain ⟨x, rfl⟩ : ∃ x : Nat, X = x := ⟨X.toNat, by omega⟩
    by_cases hb0 : bytes < 0
    · have t1 : decide (bytes < 0) = true := by simp [hb0]
      have hk : classR bytes = (0, 2) := by unfold classR; rw [if_pos hb0]
      have hv : fitR N T x c bytes = ((0, 0), 2, T) := by unfold fitR; rw [if_neg (by rw [hm]; decide), if_pos (by rw [hk]; decide), hk]
      have r0 : (w2).cell? ⟨w.heap.size + 1, 0, none⟩ = some (.int .i64 0) := (cell_of (HR2).out 0).trans rfl
      have r1 : (w2).cell? ⟨w.heap.size + 1, 1, none⟩ = some (.int .i64 0) := (cell_of (HR2).out 1).trans rfl
      have rf0 : (w2).frozen? ⟨w.heap.size + 1, 0, none⟩ = false := free_of (HR2).out 0
      have rf1 : (w2).frozen? ⟨w.heap.size + 1, 1, none⟩ = false := free_of (HR2).out 1
      go_wp2
      obtain ⟨W6, hW6⟩ : ∃ W6, (((w2).setCell ⟨w.heap.size + 1, 0, none⟩ (.int .i64 0)).setCell ⟨w.heap.size + 1, 1, none⟩ (.int .i64 0)) = W6 := ⟨_, rfl⟩
      have h6 : W6.heap[w.heap.size + 1]? = some (.cells #[.int .i64 0, .int .i64 0] 23 (0, 0)) := by subst hW6; exact heap_set (heap_set (HR2).out 0 _) 1 _
      have hm6 : Mod (· = w.heap.size + 1) w2 W6 := by subst hW6; exact (Mod.set1 _ _ 0 _).trans (Mod.set1 _ _ 1 _)
      rw [hW6]
      have z0 : W6.cell? ⟨w.heap.size + 1, 0, none⟩ = some (.int .i64 0) := (cell_of h6 0).trans rfl
      have z1 : W6.cell? ⟨w.heap.size + 1, 1, none⟩ = some (.int .i64 0) := (cell_of h6 1).trans rfl
      refine bodyPost_ret (v := .tuple #[.agg #[.int .i64 0, .int .i64 0], .int .i64 2]) ?_ rfl ⟨by first | (rw [hv]; done) | rfl, by (try rw [hv]); exact (HB2).out.mod hm6 (by omega) (by omega), (HM2).out.trans' hm6 (fun j hj e => by omega)⟩
      simp [results, Try.f16, go_sem, z0, z1]
    have t1 : decide (bytes < 0) = false := by simp; omega
    rcases classR_cases bytes with hk | hk | ⟨k, hk, hk1, hk2⟩
    · unfold classR at hk
      rw [if_neg hb0] at hk
      split at hk <;> simp at hk
    · rw [hk] at hclc
      have hv : fitR N T x c bytes = ((0, 0), 4, T) := by unfold fitR; rw [if_neg (by rw [hm]; decide), if_pos (by rw [hk]; decide), hk]
      go_wp2_with fail
      refine (hclc _).mono ?_
      rintro e w2 ⟨rfl, rfl⟩
      have r0 : (w2).cell? ⟨w.heap.size + 1, 0, none⟩ = some (.int .i64 0) := (cell_of (HR2).out 0).trans rfl
      have r1 : (w2).cell? ⟨w.heap.size + 1, 1, none⟩ = some (.int .i64 0) := (cell_of (HR2).out 1).trans rfl
      have rf0 : (w2).frozen? ⟨w.heap.size + 1, 0, none⟩ = false := free_of (HR2).out 0
      have rf1 : (w2).frozen? ⟨w.heap.size + 1, 1, none⟩ = false := free_of (HR2).out 1
      go_wp2
      obtain ⟨W6, hW6⟩ : ∃ W6, (((w2).setCell ⟨w.heap.size + 1, 0, none⟩ (.int .i64 0)).setCell ⟨w.heap.size + 1, 1, none⟩ (.int .i64 0)) = W6 := ⟨_, rfl⟩
      have h6 : W6.heap[w.heap.size + 1]? = some (.cells #[.int .i64 0, .int .i64 0] 23 (0, 0)) := by subst hW6; exact heap_set (heap_set (HR2).out 0 _) 1 _
      have hm6 : Mod (· = w.heap.size + 1) w2 W6 := by subst hW6; exact (Mod.set1 _ _ 0 _).trans (Mod.set1 _ _ 1 _)
      rw [hW6]
      have z0 : W6.cell? ⟨w.heap.size + 1, 0, none⟩ = some (.int .i64 0) := (cell_of h6 0).trans rfl
      have z1 : W6.cell? ⟨w.heap.size + 1, 1, none⟩ = some (.int .i64 0) := (cell_of h6 1).trans rfl
      refine bodyPost_ret (v := .tuple #[.agg #[.int .i64 0, .int .i64 0], .int .i64 4]) ?_ rfl ⟨by first | (rw [hv]; done) | rfl, by (try rw [hv]); exact (HB2).out.mod hm6 (by omega) (by omega), (HM2).out.trans' hm6 (fun j hj e => by omega)⟩
      simp [results, Try.f16, go_sem, z0, z1]
    rw [hk] at hclc
    have hcm := may_lo hm
    have hcnt := fun W => rcount_any x c hcm.2 W
    go_wp2_with fail
    refine (hclc _).mono ?_
    rintro e w2 ⟨rfl, rfl⟩
    have d0 : w2.cell? ⟨w.heap.size, 0, none⟩ = some (.int .i64 x) := (cell_of HX2.out 0).trans rfl
    have d1 : w2.cell? ⟨w.heap.size, 1, none⟩ = some (.int .i64 c) := (cell_of HX2.out 1).trans rfl
    obtain ⟨m, hn⟩ : ∃ m, nblk c = m := ⟨_, rfl⟩
    rw [hn] at hcnt hm16
    go_wp2_with fail
    refine (hcnt _).mono ?_
    rintro e w3 ⟨rfl, m3⟩
    have HX3 := Lib.hid ((m3.block _ (lt_of HX2.out) (fun x => x)).trans HX2.out)
    have HR3 := Lib.hid ((m3.block _ (lt_of HR2.out) (fun x => x)).trans HR2.out)
    have HB3 := Lib.hid (HB2.out.mod m3 (fun x => x) (fun x => x))
    have HM3 : Hid (Mod (· = g) w w3) := HM2.out.trans (m3.mono (fun _ _ x => x.elim))
    clear HX2 HR2 HB2 HM2 d0 d1 m3 hclc hcnt t1
    go_wp2
    go_loopw [11] (fun i wr => ∃ q : Nat, q ≤ m ∧ i = .int .i64 q ∧ Hid (x + q ≤ N ∨ q = 0) ∧ Hid (∀ j, j < q → T (x + j) = true) ∧ ∃ m, wr = w3.drewN m) (fun i _ => m - (intOf i).toNat)
    case atStart => exact ⟨0, Nat.zero_le _, rfl, Or.inr rfl, fun j hj => absurd hj (Nat.not_lt_zero j), 0, rfl⟩
    case round =>
      obtain ⟨q, hq, rfl, HQ, HT, nd, rfl⟩ := hrel
      have d0 : w3.cell? ⟨w.heap.size, 0, none⟩ = some (.int .i64 x) := (cell_of HX3.out 0).trans rfl
      have d1 : w3.cell? ⟨w.heap.size, 1, none⟩ = some (.int .i64 c) := (cell_of HX3.out 1).trans rfl
      have c0 : w3.cell? ⟨r, 0, none⟩ = some (.slice (some ⟨g, 0, none⟩) N cap) := (cell_of HB3.out.at_.hb 0).trans rfl
      by_cases hlq : q < m
      · have t1 : decide (q < m) = true := by simp [hlq]
        by_cases hqn : x + q < N
        · have t2 : decide ((N : Int) ≤ (x : Int) + q) = false := by simp; omega
          have c1 := HB3.out.at_.hc (x + q) hqn
          cases hTq : T (x + q) with
          | true =>
            rw [hTq] at c1
            go_wp2
            go_quiet (fail)
            go_wp2
            go_roundw
            case rel => exact ⟨q + 1, hlq, by go_num, Or.inl (by omega), fun j hj => by rcases Nat.lt_succ_iff_lt_or_eq.1 hj with hj | rfl; exact HT.out j hj; exact hTq, nd + nq, rfl⟩
            case measure => simp [intOf]; omega
          | false =>
            rw [hTq] at c1
            go_wp2
            go_quiet (fail)
            have hv : fitR N T x c bytes = ((0, 0), 3, T) := by
              unfold fitR
              rw [if_neg (by rw [hm]; decide), if_neg (by rw [hk]; exact fun h => h rfl), if_pos]
              rw [Bool.eq_false_iff]
              intro hh
              have := (held_at hh).2 q (by omega)
              rw [hTq] at this
              cases this
            obtain ⟨w4, hw4⟩ : ∃ w4, (w3.drewN nd).drewN nq = w4 := ⟨_, rfl⟩
            have m4 : Mod (fun _ => False) w3 w4 := by subst hw4; first | exact ((Mod.refl _ _).drewN _).drewN _ | exact (Mod.refl _ _).drewN _
            rw [hw4]
            have HX4 := Lib.hid ((m4.block _ (lt_of HX3.out) (fun x => x)).trans HX3.out)
            have HR4 := Lib.hid ((m4.block _ (lt_of HR3.out) (fun x => x)).trans HR3.out)
            have HB4 := Lib.hid (HB3.out.mod m4 (fun x => x) (fun x => x))
            have HM4 : Hid (Mod (· = g) w w4) := HM3.out.trans (m4.mono (fun _ _ x => x.elim))
            clear hw4 m4
            have r0 : (w4).cell? ⟨w.heap.size + 1, 0, none⟩ = some (.int .i64 0) := (cell_of (HR4).out 0).trans rfl
            have r1 : (w4).cell? ⟨w.heap.size + 1, 1, none⟩ = some (.int .i64 0) := (cell_of (HR4).out 1).trans rfl
            have rf0 : (w4).frozen? ⟨w.heap.size + 1, 0, none⟩ = false := free_of (HR4).out 0
            have rf1 : (w4).frozen? ⟨w.heap.size + 1, 1, none⟩ = false := free_of (HR4).out 1
            go_wp2
            obtain ⟨W6, hW6⟩ : ∃ W6, (((w4).setCell ⟨w.heap.size + 1, 0, none⟩ (.int .i64 0)).setCell ⟨w.heap.size + 1, 1, none⟩ (.int .i64 0)) = W6 := ⟨_, rfl⟩
            have h6 : W6.heap[w.heap.size + 1]? = some (.cells #[.int .i64 0, .int .i64 0] 23 (0, 0)) := by subst hW6; exact heap_set (heap_set (HR4).out 0 _) 1 _
            have hm6 : Mod (· = w.heap.size + 1) w4 W6 := by subst hW6; exact (Mod.set1 _ _ 0 _).trans (Mod.set1 _ _ 1 _)
            rw [hW6]
            have z0 : W6.cell? ⟨w.heap.size + 1, 0, none⟩ = some (.int .i64 0) := (cell_of h6 0).trans rfl
            have z1 : W6.cell? ⟨w.heap.size + 1, 1, none⟩ = some (.int .i64 0) := (cell_of h6 1).trans rfl
            refine bodyPost_ret (v := .tuple #[.agg #[.int .i64 0, .int .i64 0], .int .i64 3]) ?_ rfl ⟨by first | (rw [hv]; done) | rfl, by (try rw [hv]); exact (HB4).out.mod hm6 (by omega) (by omega), (HM4).out.trans' hm6 (fun j hj e => by omega)⟩
            simp [results, Try.f16, go_sem, z0, z1]
        · have t2 : decide ((N : Int) ≤ (x : Int) + q) = true := by simp; omega
          have hv : fitR N T x c bytes = ((0, 0), 3, T) := by
            unfold fitR
            rw [if_neg (by rw [hm]; decide), if_neg (by rw [hk]; exact fun h => h rfl), if_pos]
            rw [Bool.eq_false_iff]
            intro hh
            have := (held_at hh).1
            omega
          go_wp2
          go_quiet (fail)
          obtain ⟨w4, hw4⟩ : ∃ w4, (w3.drewN nd).drewN nq = w4 := ⟨_, rfl⟩
          have m4 : Mod (fun _ => False) w3 w4 := by subst hw4; first | exact ((Mod.refl _ _).drewN _).drewN _ | exact (Mod.refl _ _).drewN _
          rw [hw4]
          have HX4 := Lib.hid ((m4.block _ (lt_of HX3.out) (fun x => x)).trans HX3.out)
          have HR4 := Lib.hid ((m4.block _ (lt_of HR3.out) (fun x => x)).trans HR3.out)
          have HB4 := Lib.hid (HB3.out.mod m4 (fun x => x) (fun x => x))
          have HM4 : Hid (Mod (· = g) w w4) := HM3.out.trans (m4.mono (fun _ _ x => x.elim))
          clear hw4 m4
          have r0 : (w4).cell? ⟨w.heap.size + 1, 0, none⟩ = some (.int .i64 0) := (cell_of (HR4).out 0).trans rfl
          have r1 : (w4).cell? ⟨w.heap.size + 1, 1, none⟩ = some (.int .i64 0) := (cell_of (HR4).out 1).trans rfl
          have rf0 : (w4).frozen? ⟨w.heap.size + 1, 0, none⟩ = false := free_of (HR4).out 0
          have rf1 : (w4).frozen? ⟨w.heap.size + 1, 1, none⟩ = false := free_of (HR4).out 1
          go_wp2
          obtain ⟨W6, hW6⟩ : ∃ W6, (((w4).setCell ⟨w.heap.size + 1, 0, none⟩ (.int .i64 0)).setCell ⟨w.heap.size + 1, 1, none⟩ (.int .i64 0)) = W6 := ⟨_, rfl⟩
          have h6 : W6.heap[w.heap.size + 1]? = some (.cells #[.int .i64 0, .int .i64 0] 23 (0, 0)) := by subst hW6; exact heap_set (heap_set (HR4).out 0 _) 1 _
          have hm6 : Mod (· = w.heap.size + 1) w4 W6 := by subst hW6; exact (Mod.set1 _ _ 0 _).trans (Mod.set1 _ _ 1 _)
          rw [hW6]
          have z0 : W6.cell? ⟨w.heap.size + 1, 0, none⟩ = some (.int .i64 0) := (cell_of h6 0).trans rfl
          have z1 : W6.cell? ⟨w.heap.size + 1, 1, none⟩ = some (.int .i64 0) := (cell_of h6 1).trans rfl
          refine bodyPost_ret (v := .tuple #[.agg #[.int .i64 0, .int .i64 0], .int .i64 3]) ?_ rfl ⟨by first | (rw [hv]; done) | rfl, by (try rw [hv]); exact (HB4).out.mod hm6 (by omega) (by omega), (HM4).out.trans' hm6 (fun j hj e => by omega)⟩
          simp [results, Try.f16, go_sem, z0, z1]
      · have t1 : decide (q < m) = false := by simp; omega
        obtain rfl : q = m := by omega
        have hq0 : x + q ≤ N := by
          rcases HQ.out with h | h
          · exact h
          · have := may_none hm (by omega)
            omega
        have hhd : heldR N T x c = true := by
          simp only [heldR, Bool.and_eq_true, decide_eq_true_eq, Int.toNat_natCast, hn]
          exact ⟨hq0, areT_true HT.out⟩
        have hf0 : fitR N T x c bytes = (if k = c then (((x : Int), c), 0, T) else if c < k then
            (if (takeR N T k).2.1 ≠ 0 then ((0, 0), (takeR N T k).2.1, T) else (((takeR N T k).1, k), 0, turnT N (takeR N T k).2.2 x (nblk c) true))
          else if k < 0 then ((0, -1), 0, turnT N T x (nblk c) true)
          else (((x : Int), k), 0, turnT N T (x + nblk k) ((nblk c : Int) - nblk k) true)) := by
          unfold fitR
          rw [if_neg (by rw [hm]; decide), if_neg (by rw [hk]; exact fun h => h rfl), if_neg (by rw [hhd]; decide), hk]
        rw [hn] at hf0
        have HF0 := Lib.hid hf0
        clear hf0 hhd d0 d1 c0
        obtain ⟨w4, hw4⟩ : ∃ w4, w3.drewN nd = w4 := ⟨_, rfl⟩
        have m4 : Mod (fun _ => False) w3 w4 := by subst hw4; first | exact ((Mod.refl _ _).drewN _).drewN _ | exact (Mod.refl _ _).drewN _
        rw [hw4]
        have HX4 := Lib.hid ((m4.block _ (lt_of HX3.out) (fun x => x)).trans HX3.out)
        have HR4 := Lib.hid ((m4.block _ (lt_of HR3.out) (fun x => x)).trans HR3.out)
        have HB4 := Lib.hid (HB3.out.mod m4 (fun x => x) (fun x => x))
        have HM4 : Hid (Mod (· = g) w w4) := HM3.out.trans (m4.mono (fun _ _ x => x.elim))
        clear hw4 m4
        have hs3 : w.heap.size + 1 < w4.heap.size := lt_of HR4.out
        have d0' : w4.cell? ⟨w.heap.size, 0, none⟩ = some (.int .i64 x) := (cell_of HX4.out 0).trans rfl
        have d1' : w4.cell? ⟨w.heap.size, 1, none⟩ = some (.int .i64 c) := (cell_of HX4.out 1).trans rfl
        by_cases hkc : k = c
        · subst hkc
          have s1 : (k == k) = true := by simp
          have hv : fitR N T x k bytes = (((x : Int), k), 0, T) := by rw [HF0.out, if_pos rfl]
          have r0 : w4.cell? ⟨w.heap.size + 1, 0, none⟩ = some (.int .i64 0) := (cell_of HR4.out 0).trans rfl
          have r1 : w4.cell? ⟨w.heap.size + 1, 1, none⟩ = some (.int .i64 0) := (cell_of HR4.out 1).trans rfl
          have rf0 : w4.frozen? ⟨w.heap.size + 1, 0, none⟩ = false := free_of HR4.out 0
          have rf1 : w4.frozen? ⟨w.heap.size + 1, 1, none⟩ = false := free_of HR4.out 1
          go_wp2
          obtain ⟨W6, hW6⟩ : ∃ W6, (((w4).setCell ⟨w.heap.size + 1, 0, none⟩ (.int .i64 x)).setCell ⟨w.heap.size + 1, 1, none⟩ (.int .i64 k)) = W6 := ⟨_, rfl⟩
          have h6 : W6.heap[w.heap.size + 1]? = some (.cells #[.int .i64 x, .int .i64 k] 23 (0, 0)) := by subst hW6; exact heap_set (heap_set (HR4).out 0 _) 1 _
          have hm6 : Mod (· = w.heap.size + 1) w4 W6 := by subst hW6; exact (Mod.set1 _ _ 0 _).trans (Mod.set1 _ _ 1 _)
          rw [hW6]
          have z0 : W6.cell? ⟨w.heap.size + 1, 0, none⟩ = some (.int .i64 x) := (cell_of h6 0).trans rfl
          have z1 : W6.cell? ⟨w.heap.size + 1, 1, none⟩ = some (.int .i64 k) := (cell_of h6 1).trans rfl
          refine bodyPost_ret (v := .tuple #[.agg #[.int .i64 x, .int .i64 k], .int .i64 0]) ?_ rfl ⟨by first | (rw [hv]; done) | rfl, by (try rw [hv]); exact (HB4).out.mod hm6 (by omega) (by omega), (HM4).out.trans' hm6 (fun j hj e => by omega)⟩
          simp [results, Try.f16, go_sem, z0, z1]
        have s1 : (k == c) = false := by simp [hkc]
        by_cases hck : c < k
        · have s2 : decide (k < c) = false := by simp; omega
          obtain ⟨k, rfl⟩ : ∃ k' : Nat, k = k' := ⟨k.toNat, by omega⟩
          have hTk := rtake_any r g N cap T k (by omega) w4 HB4.out
          cases hf : (spots N (2 ^ k)).find? (isFree T N (2 ^ k)) with
          | none =>
            have htk := takeR_none N T k (by omega) hf
            rw [htk] at hTk
            have hv : fitR N T x c bytes = ((0, 0), 6, T) := by rw [HF0.out, if_neg hkc, if_pos hck, htk, if_pos (fun h => by cases h)]
            go_wp2_with fail
            refine hTk.mono ?_
            rintro e w5 ⟨rfl, hb5, m5⟩
            have HR5 := Lib.hid ((m5.block _ (lt_of HR4.out) (fun e => by omega)).trans HR4.out)
            have HB5 := Lib.hid hb5
            have HM5 : Hid (Mod (· = g) w w5) := HM4.out.trans m5
            clear hb5 m5 hTk
            have r0 : (w5).cell? ⟨w.heap.size + 1, 0, none⟩ = some (.int .i64 0) := (cell_of (HR5).out 0).trans rfl
            have r1 : (w5).cell? ⟨w.heap.size + 1, 1, none⟩ = some (.int .i64 0) := (cell_of (HR5).out 1).trans rfl
            have rf0 : (w5).frozen? ⟨w.heap.size + 1, 0, none⟩ = false := free_of (HR5).out 0
            have rf1 : (w5).frozen? ⟨w.heap.size + 1, 1, none⟩ = false := free_of (HR5).out 1
            go_wp2
            obtain ⟨W6, hW6⟩ : ∃ W6, (((w5).setCell ⟨w.heap.size + 1, 0, none⟩ (.int .i64 0)).setCell ⟨w.heap.size + 1, 1, none⟩ (.int .i64 0)) = W6 := ⟨_, rfl⟩
            have h6 : W6.heap[w.heap.size + 1]? = some (.cells #[.int .i64 0, .int .i64 0] 23 (0, 0)) := by subst hW6; exact heap_set (heap_set (HR5).out 0 _) 1 _
            have hm6 : Mod (· = w.heap.size + 1) w5 W6 := by subst hW6; exact (Mod.set1 _ _ 0 _).trans (Mod.set1 _ _ 1 _)
            rw [hW6]
            have z0 : W6.cell? ⟨w.heap.size + 1, 0, none⟩ = some (.int .i64 0) := (cell_of h6 0).trans rfl
            have z1 : W6.cell? ⟨w.heap.size + 1, 1, none⟩ = some (.int .i64 0) := (cell_of h6 1).trans rfl
            refine bodyPost_ret (v := .tuple #[.agg #[.int .i64 0, .int .i64 0], .int .i64 6]) ?_ rfl ⟨by first | (rw [hv]; done) | rfl, by (try rw [hv]); exact (HB5).out.mod hm6 (by omega) (by omega), (HM5).out.trans' hm6 (fun j hj e => by omega)⟩
            simp [results, Try.f16, go_sem, z0, z1]
          | some sp =>
            have htk := takeR_some N T k (by omega) sp hf
            obtain ⟨a, ha⟩ := sp
            simp only at htk
            have hkeep : ∀ i, i < q → putN T a (2 ^ k) true (x + i) = true := fun i hi => by
              have := take_keeps (N := N) (k := k) (HT.out i hi)
              rw [htk] at this
              exact this
            obtain ⟨T', hT'⟩ : ∃ T', putN T a (2 ^ k) true = T' := ⟨_, rfl⟩
            rw [hT'] at htk hkeep
            rw [htk] at hTk
            have hgv := turnE_nat hq0 hkeep
            have hv : fitR N T x c bytes = (((a : Int), (k : Int)), 0, turnT N T' x q true) := by rw [HF0.out, if_neg hkc, if_pos hck, htk, if_neg (fun h => h rfl)]
            clear hf hT' hkeep
            go_wp2_with fail
            refine hTk.mono ?_
            rintro e w5 ⟨rfl, hb5, m5⟩
            have HX5 := Lib.hid ((m5.block _ (lt_of HX4.out) (fun e => by omega)).trans HX4.out)
            have HR5 := Lib.hid ((m5.block _ (lt_of HR4.out) (fun e => by omega)).trans HR4.out)
            have HB5 := Lib.hid hb5
            have HM5 : Hid (Mod (· = g) w w5) := HM4.out.trans m5
            have d0 : w5.cell? ⟨w.heap.size, 0, none⟩ = some (.int .i64 x) := (cell_of HX5.out 0).trans rfl
            have hGv := rturn_any r g N cap T' x q w5 HB5.out (by omega) (by omega)
            rw [hgv] at hGv
            clear hb5 m5 hTk
            go_wp2_with fail
            refine hGv.mono ?_
            rintro e w6 ⟨rfl, hb6, m6⟩
            have HR6 := Lib.hid ((m6.block _ (lt_of HR5.out) (fun e => by omega)).trans HR5.out)
            have r0 : w6.cell? ⟨w.heap.size + 1, 0, none⟩ = some (.int .i64 0) := (cell_of HR6.out 0).trans rfl
            have r1 : w6.cell? ⟨w.heap.size + 1, 1, none⟩ = some (.int .i64 0) := (cell_of HR6.out 1).trans rfl
            have rf0 : w6.frozen? ⟨w.heap.size + 1, 0, none⟩ = false := free_of HR6.out 0
            have rf1 : w6.frozen? ⟨w.heap.size + 1, 1, none⟩ = false := free_of HR6.out 1
            have HB6 := Lib.hid hb6
            have HM6 : Hid (Mod (· = g) w w6) := HM5.out.trans m6
            clear hb6 m6 hGv
            go_wp2
            obtain ⟨W6, hW6⟩ : ∃ W6, (((w6).setCell ⟨w.heap.size + 1, 0, none⟩ (.int .i64 a)).setCell ⟨w.heap.size + 1, 1, none⟩ (.int .i64 k)) = W6 := ⟨_, rfl⟩
            have h6 : W6.heap[w.heap.size + 1]? = some (.cells #[.int .i64 a, .int .i64 k] 23 (0, 0)) := by subst hW6; exact heap_set (heap_set (HR6).out 0 _) 1 _
            have hm6 : Mod (· = w.heap.size + 1) w6 W6 := by subst hW6; exact (Mod.set1 _ _ 0 _).trans (Mod.set1 _ _ 1 _)
            rw [hW6]
            have z0 : W6.cell? ⟨w.heap.size + 1, 0, none⟩ = some (.int .i64 a) := (cell_of h6 0).trans rfl
            have z1 : W6.cell? ⟨w.heap.size + 1, 1, none⟩ = some (.int .i64 k) := (cell_of h6 1).trans rfl
            refine bodyPost_ret (v := .tuple #[.agg #[.int .i64 a, .int .i64 k], .int .i64 0]) ?_ rfl ⟨by first | (rw [hv]; done) | rfl, by (try rw [hv]); exact (HB6).out.mod hm6 (by omega) (by omega), (HM6).out.trans' hm6 (fun j hj e => by omega)⟩
            simp [results, Try.f16, go_sem, z0, z1]
        have s2 : decide (k < c) = true := by simp; omega
        obtain ⟨y, hy⟩ : ∃ y, nblk (k : Int) = y := ⟨_, rfl⟩
        have hyq : y ≤ q := by rw [← hy, ← hn]; exact nblk_mono (by omega) (by omega)
        have hgv : turnE N T ((x : Int) + y) ((q : Int) - y) true = 0 := by
          have := turnE_nat (N := N) (T := T) (a := x + y) (k := q - y) (by omega) (fun i hi => by rw [Nat.add_assoc]; exact HT.out (y + i) (by omega))
          rw [show ((x + y : Nat) : Int) = (x : Int) + y from by omega, show ((q - y : Nat) : Int) = (q : Int) - y from by omega] at this
          exact this
        by_cases hk0 : k < 0
        · have s3 : decide (k < 0) = true := by simp [hk0]
          have hv : fitR N T x c bytes = ((0, k), 0, turnT N T ((x : Int) + y) ((q : Int) - y) true) := by
            rw [HF0.out, if_neg hkc, if_neg hck, if_pos hk0]
            have h0 : y = 0 := by rw [← hy]; exact nblk_bad (Or.inl hk0)
            have h1 : k = -1 := by omega
            subst h0
            subst h1
            simp
          obtain ⟨W7, hW7⟩ : ∃ W7, (w4.alloc (.cells #[.int .i64 x, .int .i64 k] 23)).setCell ⟨w4.heap.size, 0, none⟩ (.int .i64 0) = W7 := ⟨_, rfl⟩
          have m7 : Mod (fun _ => False) w4 W7 := by subst hW7; exact ((Mod.refl _ _).alloc _).setCell (p := ⟨w4.heap.size, 0, none⟩) (Or.inr (Nat.le_refl _)) _
          have hby : W7.heap[w4.heap.size]? = some (.cells #[.int .i64 0, .int .i64 k] 23 (0, 0)) := by subst hW7; exact heap_set (new_at _ _) 0 _
          have hS0 : (W7.drew.cell? ⟨w.heap.size, 0, none⟩ = some (.int .i64 x) ∧ W7.drew.cell? ⟨w4.heap.size, 0, none⟩ = some (.int .i64 0) ∧ W7.drew.cell? ⟨w4.heap.size, 1, none⟩ = some (.int .i64 k)) :=
            ⟨(World.cell?_of_block (a := ⟨w.heap.size, 0, none⟩) (m7.block _ (lt_of HX4.out) (fun x => x))).trans d0', (cell_of hby 0).trans rfl, (cell_of hby 1).trans rfl⟩
          have hSk : ∀ A B, ((A : World).cell? ⟨w.heap.size, 0, none⟩ = some (.int .i64 x) ∧ A.cell? ⟨w4.heap.size, 0, none⟩ = some (.int .i64 0) ∧ A.cell? ⟨w4.heap.size, 1, none⟩ = some (.int .i64 k)) → Mod (· = g) A B →
              (B.cell? ⟨w.heap.size, 0, none⟩ = some (.int .i64 x) ∧ B.cell? ⟨w4.heap.size, 0, none⟩ = some (.int .i64 0) ∧ B.cell? ⟨w4.heap.size, 1, none⟩ = some (.int .i64 k)) := by
            rintro A B ⟨h1, h2, h3⟩ hm
            exact ⟨(World.cell?_of_block (a := ⟨w.heap.size, 0, none⟩) (hm.block w.heap.size (World.block_lt_of_cell? _ _ h1) (fun e => by omega))).trans h1,
              (World.cell?_of_block (a := ⟨w4.heap.size, 0, none⟩) (hm.block w4.heap.size (World.block_lt_of_cell? _ _ h2) (fun e => by omega))).trans h2,
              (World.cell?_of_block (a := ⟨w4.heap.size, 1, none⟩) (hm.block w4.heap.size (World.block_lt_of_cell? _ _ h2) (fun e => by omega))).trans h3⟩
          have hcy := fun W => rcount_any 0 k (by omega) W
          rw [hy] at hcy
          have hgw : ∀ W, RefW W r g N cap T → Calls Try.prog 37 #[.pointer (some ⟨r, 0, none⟩), .int .i64 (IntKind.i64.wrap ((x : Int) + y)), .int .i64 (IntKind.i64.wrap ((q : Int) - y)), .bool false] W fun e w' =>
              e = .returned (.int .i64 0) ∧ RefW w' r g N cap (turnT N T ((x : Int) + y) ((q : Int) - y) true) ∧ Mod (· = g) W w' := by
            intro W hW
            rw [show IntKind.i64.wrap ((x : Int) + y) = (x : Int) + y from by rw [IntKind.wrap_i64]; omega, show IntKind.i64.wrap ((q : Int) - y) = (q : Int) - y from by rw [IntKind.wrap_i64]; omega]
            have := rturn_any r g N cap T ((x : Int) + y) ((q : Int) - y) W hW (by omega) (by omega)
            rw [hgv] at this
            exact this
          have HBc := Lib.hid (HB4.out.mod m7.drew (fun x => x) (fun x => x))
          have HRc : Hid (W7.drew.heap[w.heap.size + 1]? = some (.cells #[.int .i64 0, .int .i64 0] 23 (0, 0))) := (m7.block _ (lt_of HR4.out) (fun x => x)).trans HR4.out
          have Mc : Hid (Mod (· = g) w W7.drew) := HM4.out.trans (m7.drew.mono (fun _ _ x => x.elim))
          clear hgv hn hy
          go_wp2
          go_region_held3 (fun w' => w'.cell? ⟨w.heap.size, 0, none⟩ = some (.int .i64 x) ∧ w'.cell? ⟨w4.heap.size, 0, none⟩ = some (.int .i64 0) ∧ w'.cell? ⟨w4.heap.size, 1, none⟩ = some (.int .i64 k)) (first | exact hS0 | exact hSk _ _ (by assumption) (by assumption)) (first
            | (go_at_call 36; refine (hcy _).mono ?_; rintro e w8 ⟨rfl, m8⟩; have HBc := Lib.hid (HBc.out.mod m8 (fun x => x) (fun x => x)); have HRc := Lib.hid ((m8.block _ (lt_of HRc.out) (fun x => x)).trans HRc.out); have m8' : Mod (· = g) _ w8 := m8.mono (fun _ _ x => x.elim); have Mc : Hid (Mod (· = g) w w8) := Mc.out.trans m8')
            | (go_at_call 37; refine (hgw _ HBc.out).mono ?_; rintro e w9 ⟨rfl, hb9, m9⟩; have HB9 := Lib.hid hb9; have HR9 := Lib.hid ((m9.block _ (lt_of HRc.out) (fun e => by omega)).trans HRc.out); have M9 : Hid (Mod (· = g) w w9) := Mc.out.trans m9))
          rename_i hHeld
          have y0 := hHeld.2.1
          have y1 := hHeld.2.2
          have r0 : w9.cell? ⟨w.heap.size + 1, 0, none⟩ = some (.int .i64 0) := (cell_of HR9.out 0).trans rfl
          have r1 : w9.cell? ⟨w.heap.size + 1, 1, none⟩ = some (.int .i64 0) := (cell_of HR9.out 1).trans rfl
          have rf0 : w9.frozen? ⟨w.heap.size + 1, 0, none⟩ = false := free_of HR9.out 0
          have rf1 : w9.frozen? ⟨w.heap.size + 1, 1, none⟩ = false := free_of HR9.out 1
          clear hHeld hSk hS0
          go_wp2
          obtain ⟨W6, hW6⟩ : ∃ W6, (((w9).setCell ⟨w.heap.size + 1, 0, none⟩ (.int .i64 0)).setCell ⟨w.heap.size + 1, 1, none⟩ (.int .i64 k)) = W6 := ⟨_, rfl⟩
          have h6 : W6.heap[w.heap.size + 1]? = some (.cells #[.int .i64 0, .int .i64 k] 23 (0, 0)) := by subst hW6; exact heap_set (heap_set (HR9).out 0 _) 1 _
          have hm6 : Mod (· = w.heap.size + 1) w9 W6 := by subst hW6; exact (Mod.set1 _ _ 0 _).trans (Mod.set1 _ _ 1 _)
          rw [hW6]
          have z0 : W6.cell? ⟨w.heap.size + 1, 0, none⟩ = some (.int .i64 0) := (cell_of h6 0).trans rfl
          have z1 : W6.cell? ⟨w.heap.size + 1, 1, none⟩ = some (.int .i64 k) := (cell_of h6 1).trans rfl
          refine bodyPost_ret (v := .tuple #[.agg #[.int .i64 0, .int .i64 k], .int .i64 0]) ?_ rfl ⟨by first | (rw [hv]; done) | rfl, by (try rw [hv]); exact (HB9).out.mod hm6 (by omega) (by omega), (M9).out.trans' hm6 (fun j hj e => by omega)⟩
          simp [results, Try.f16, go_sem, z0, z1]
        · have s3 : decide (k < 0) = false := by simp; omega
          obtain ⟨k, rfl⟩ : ∃ k' : Nat, k = k' := ⟨k.toNat, by omega⟩
          have hv : fitR N T x c bytes = (((x : Int), (k : Int)), 0, turnT N T ((x : Int) + y) ((q : Int) - y) true) := by rw [HF0.out, if_neg hkc, if_neg hck, if_neg hk0, hy]
          obtain ⟨W7, hW7⟩ : ∃ W7, w4.alloc (.cells #[.int .i64 x, .int .i64 k] 23) = W7 := ⟨_, rfl⟩
          have m7 : Mod (fun _ => False) w4 W7 := by subst hW7; exact (Mod.refl _ _).alloc _
          have hby : W7.heap[w4.heap.size]? = some (.cells #[.int .i64 x, .int .i64 k] 23 (0, 0)) := by subst hW7; exact new_at _ _
          have hS0 : (W7.drew.cell? ⟨w.heap.size, 0, none⟩ = some (.int .i64 x) ∧ W7.drew.cell? ⟨w4.heap.size, 0, none⟩ = some (.int .i64 x) ∧ W7.drew.cell? ⟨w4.heap.size, 1, none⟩ = some (.int .i64 k)) :=
            ⟨(World.cell?_of_block (a := ⟨w.heap.size, 0, none⟩) (m7.block _ (lt_of HX4.out) (fun x => x))).trans d0', (cell_of hby 0).trans rfl, (cell_of hby 1).trans rfl⟩
          have hSk : ∀ A B, ((A : World).cell? ⟨w.heap.size, 0, none⟩ = some (.int .i64 x) ∧ A.cell? ⟨w4.heap.size, 0, none⟩ = some (.int .i64 x) ∧ A.cell? ⟨w4.heap.size, 1, none⟩ = some (.int .i64 k)) → Mod (· = g) A B →
              (B.cell? ⟨w.heap.size, 0, none⟩ = some (.int .i64 x) ∧ B.cell? ⟨w4.heap.size, 0, none⟩ = some (.int .i64 x) ∧ B.cell? ⟨w4.heap.size, 1, none⟩ = some (.int .i64 k)) := by
            rintro A B ⟨h1, h2, h3⟩ hm
            exact ⟨(World.cell?_of_block (a := ⟨w.heap.size, 0, none⟩) (hm.block w.heap.size (World.block_lt_of_cell? _ _ h1) (fun e => by omega))).trans h1,
              (World.cell?_of_block (a := ⟨w4.heap.size, 0, none⟩) (hm.block w4.heap.size (World.block_lt_of_cell? _ _ h2) (fun e => by omega))).trans h2,
              (World.cell?_of_block (a := ⟨w4.heap.size, 1, none⟩) (hm.block w4.heap.size (World.block_lt_of_cell? _ _ h2) (fun e => by omega))).trans h3⟩
          have hcy := fun W => rcount_any x k (by omega) W
          rw [hy] at hcy
          have hgw : ∀ W, RefW W r g N cap T → Calls Try.prog 37 #[.pointer (some ⟨r, 0, none⟩), .int .i64 (IntKind.i64.wrap ((x : Int) + y)), .int .i64 (IntKind.i64.wrap ((q : Int) - y)), .bool false] W fun e w' =>
              e = .returned (.int .i64 0) ∧ RefW w' r g N cap (turnT N T ((x : Int) + y) ((q : Int) - y) true) ∧ Mod (· = g) W w' := by
            intro W hW
            rw [show IntKind.i64.wrap ((x : Int) + y) = (x : Int) + y from by rw [IntKind.wrap_i64]; omega, show IntKind.i64.wrap ((q : Int) - y) = (q : Int) - y from by rw [IntKind.wrap_i64]; omega]
            have := rturn_any r g N cap T ((x : Int) + y) ((q : Int) - y) W hW (by omega) (by omega)
            rw [hgv] at this
            exact this
          have HBc := Lib.hid (HB4.out.mod m7.drew (fun x => x) (fun x => x))
          have HRc : Hid (W7.drew.heap[w.heap.size + 1]? = some (.cells #[.int .i64 0, .int .i64 0] 23 (0, 0))) := (m7.block _ (lt_of HR4.out) (fun x => x)).trans HR4.out
          have Mc : Hid (Mod (· = g) w W7.drew) := HM4.out.trans (m7.drew.mono (fun _ _ x => x.elim))
          clear hgv hn hy
          go_wp2
          go_region_held3 (fun w' => w'.cell? ⟨w.heap.size, 0, none⟩ = some (.int .i64 x) ∧ w'.cell? ⟨w4.heap.size, 0, none⟩ = some (.int .i64 x) ∧ w'.cell? ⟨w4.heap.size, 1, none⟩ = some (.int .i64 k)) (first | exact hS0 | exact hSk _ _ (by assumption) (by assumption)) (first
            | (go_at_call 36; refine (hcy _).mono ?_; rintro e w8 ⟨rfl, m8⟩; have HBc := Lib.hid (HBc.out.mod m8 (fun x => x) (fun x => x)); have HRc := Lib.hid ((m8.block _ (lt_of HRc.out) (fun x => x)).trans HRc.out); have m8' : Mod (· = g) _ w8 := m8.mono (fun _ _ x => x.elim); have Mc : Hid (Mod (· = g) w w8) := Mc.out.trans m8')
            | (go_at_call 37; refine (hgw _ HBc.out).mono ?_; rintro e w9 ⟨rfl, hb9, m9⟩; have HB9 := Lib.hid hb9; have HR9 := Lib.hid ((m9.block _ (lt_of HRc.out) (fun e => by omega)).trans HRc.out); have M9 : Hid (Mod (· = g) w w9) := Mc.out.trans m9))
          rename_i hHeld
          have y0 := hHeld.2.1
          have y1 := hHeld.2.2
          have r0 : w9.cell? ⟨w.heap.size + 1, 0, none⟩ = some (.int .i64 0) := (cell_of HR9.out 0).trans rfl
          have r1 : w9.cell? ⟨w.heap.size + 1, 1, none⟩ = some (.int .i64 0) := (cell_of HR9.out 1).trans rfl
          have rf0 : w9.frozen? ⟨w.heap.size + 1, 0, none⟩ = false := free_of HR9.out 0
          have rf1 : w9.frozen? ⟨w.heap.size + 1, 1, none⟩ = false := free_of HR9.out 1
          clear hHeld hSk hS0
          go_wp2
          obtain ⟨W6, hW6⟩ : ∃ W6, (((w9).setCell ⟨w.heap.size + 1, 0, none⟩ (.int .i64 x)).setCell ⟨w.heap.size + 1, 1, none⟩ (.int .i64 k)) = W6 := ⟨_, rfl⟩
          have h6 : W6.heap[w.heap.size + 1]? = some (.cells #[.int .i64 x, .int .i64 k] 23 (0, 0)) := by subst hW6; exact heap_set (heap_set (HR9).out 0 _) 1 _
          have hm6 : Mod (· = w.heap.size + 1) w9 W6 := by subst hW6; exact (Mod.set1 _ _ 0 _).trans (Mod.set1 _ _ 1 _)
          rw [hW6]
          have z0 : W6.cell? ⟨w.heap.size + 1, 0, none⟩ = some (.int .i64 x) := (cell_of h6 0).trans rfl
          have z1 : W6.cell? ⟨w.heap.size + 1, 1, none⟩ = some (.int .i64 k) := (cell_of h6 1).trans rfl
          refine bodyPost_ret (v := .tuple #[.agg #[.int .i64 x, .int .i64 k], .int .i64 0]) ?_ rfl ⟨by first | (rw [hv]; done) | rfl, by (try rw [hv]); exact (HB9).out.mod hm6 (by omega) (by omega), (M9).out.trans' hm6 (fun j hj e => by omega)⟩
          simp [results, Try.f16, go_sem, z0, z1]
end Go.Proofs.Ytfmlgleeojblkaa
