/- Class; Fit, where a file grows. -/
import Derived.Test.YtfmlgleeojblkaaBitsMore
import Derived.Test.YtfmlgleeojblkaaExt
namespace Go.Proofs.Ytfmlgleeojblkaa
open Go.RowKit

def I64' (x : Int) : Prop := -9223372036854775808 ≤ x ∧ x ≤ 9223372036854775807
def cls (x : Int) : Int := if x ≤ 0 then -1 else if x ≤ 448 then 0 else if x ≤ 896 then 1 else if x ≤ 1792 then 2 else if x ≤ 3584 then 3 else 4
def classR (x : Int) : Int × Int := if x < 0 then (0, 2) else if 7168 < x then (0, 4) else (cls x, 0)
theorem cls_step (x : Int) (j : Nat) (h2 : x ≤ 7168) (hj : j ≤ 5) (h : (j : Int) ≤ cls x + 1) :
    (((448 * nblk ((j : Int) - 1) : Nat) : Int) < x ∧ ((j + 1 : Nat) : Int) ≤ cls x + 1 ∧ j + 1 ≤ 5) ∨ (¬ ((448 * nblk ((j : Int) - 1) : Nat) : Int) < x ∧ cls x = (j : Int) - 1) := by
  have hn := nblk_cases ((j : Int) - 1)
  unfold cls at *
  repeat' split at h
  all_goals
    repeat' split
    all_goals omega
theorem cls_le (x : Int) : -1 ≤ cls x ∧ cls x ≤ 4 := by
  unfold cls
  repeat' split
  all_goals omega

theorem class_any (x : Int) (w : World) : Calls Try.prog 22 #[.int .i64 x] w fun e w' => e = .returned (.tuple #[.int .i64 (classR x).1, .int .i64 (classR x).2]) ∧ w' = w := by
  by_cases h1 : x < 0
  · have t1 : decide (x < 0) = true := by simp [h1]
    rw [show classR x = (0, 2) from if_pos h1]
    go_enter Try.func22, Try.ntmps22
    go_wp2
    go_ret2
    exact ⟨rfl, rfl⟩
  have t1 : decide (x < 0) = false := by simp; omega
  by_cases h2 : 7168 < x
  · have t2 : decide (7168 < x) = true := by simp [h2]
    rw [show classR x = (0, 4) from by unfold classR; rw [if_neg h1, if_pos h2]]
    go_enter Try.func22, Try.ntmps22
    go_wp2
    go_ret2
    exact ⟨rfl, rfl⟩
  have t2 : decide (7168 < x) = false := by simp; omega
  rw [show classR x = (cls x, 0) from by unfold classR; rw [if_neg h1, if_neg h2]]
  go_enter Try.func22, Try.ntmps22
  go_wp2
  go_loop [4] (fun i => ∃ j : Nat, j ≤ 5 ∧ i = .int .i64 ((j : Int) - 1) ∧ (j : Int) ≤ cls x + 1) (fun i => (5 - intOf i).toNat)
  case atStart => exact ⟨0, Nat.zero_le _, rfl, by have := cls_le x; omega⟩
  case round =>
    obtain ⟨j, hj, rfl, hc⟩ := hrel
    have hst := cls_step x j (by omega) hj hc
    have hnb := nblk_le ((j : Int) - 1)
    have hrm := fun W => room_any ((j : Int) - 1) W
    generalize nblk ((j : Int) - 1) = nb at *
    obtain ⟨R, hR⟩ : ∃ R, 448 * nb = R := ⟨_, rfl⟩
    rw [hR] at hst hrm
    rcases hst with ⟨h3, h4, h5⟩ | ⟨h3, h4⟩
    · have t3 : decide ((R : Int) < x) = true := by simp [h3]
      go_wp2_with fail
      refine (hrm _).mono ?_
      rintro e w1 ⟨rfl, rfl⟩
      go_wp2
      go_round
      case rel => exact ⟨j + 1, h5, by congr 1; simp, h4⟩
      case measure => simp [intOf]; omega
    · have t3 : decide ((R : Int) < x) = false := by simp; omega
      go_wp2_with fail
      refine (hrm _).mono ?_
      rintro e w1 ⟨rfl, rfl⟩
      go_wp2
      go_ret2
      exact ⟨by rw [h4]; rfl, rfl⟩

set_option maxRecDepth 100000 in
set_option maxHeartbeats 2000000 in
theorem fit_grow (b g N : Nat) (T T' : Nat → Bool) (X m at_ k : Nat) (c bytes : Int) (w : World) (h : BitsAt w b g N T) (hm : mayB X c = true) (hX : X ≤ 16384) (hc : I64' c) (hcl : classR bytes = ((k : Int), 0)) (hlt : c < k)
    (hn : nblk c = m) (hT : ∀ i, i < m → T (X + i) = true) (hf : X + m ≤ N) (htk : takeR N T k = ((at_ : Int), 0, T')) (hgv : turnE N T' X m true = 0) :
    Calls Try.prog 15 #[.pointer (some ⟨b, 0, none⟩), .agg #[.int .i64 X, .int .i64 c], .int .i64 bytes] w fun e w' =>
      e = .returned (.tuple #[.agg #[.int .i64 at_, .int .i64 k], .int .i64 0]) ∧ BitsAt w' b g N (turnT N T' X m true) ∧ Mod (· = g) w w' := by
  have hn1 := h.n1
  have hn2 := h.n2
  have hm16 : m ≤ 16 := by have := nblk_le c; omega
  obtain ⟨W, hW⟩ : ∃ W, (w.alloc (.cells #[.int .i64 X, .int .i64 c] 23)).alloc (.cells #[.int .i64 0, .int .i64 0] 23) = W := ⟨_, rfl⟩
  have hbx : W.heap[w.heap.size]? = some (.cells #[.int .i64 X, .int .i64 c] 23 (0, 0)) := by subst hW; exact alloc_keep (new_at _ _)
  have hbr : W.heap[w.heap.size + 1]? = some (.cells #[.int .i64 0, .int .i64 0] 23 (0, 0)) := by subst hW; exact new_at' _ _ _ (by simp)
  have hMW : Mod (fun _ => False) w W := by subst hW; exact ((Mod.refl _ w).alloc _).alloc _
  have HB := Lib.hid (h.mod hMW (fun x => x) (fun x => x))
  have hgl : g < w.heap.size := lt_of h.hg
  have hbw : b < w.heap.size := lt_of h.hb
  have d0 : W.cell? ⟨w.heap.size, 0, none⟩ = some (.int .i64 X) := (cell_of hbx 0).trans rfl
  have d1 : W.cell? ⟨w.heap.size, 1, none⟩ = some (.int .i64 c) := (cell_of hbx 1).trans rfl
  have hmayc := fun W => may_any X c W (by omega) hc
  rw [hm] at hmayc
  have hclc := fun W => class_any bytes W
  rw [hcl] at hclc
  have hcnt := fun W => count_any X c W
  rw [hn] at hcnt
  have t0 : (N == 0) = false := by simp; omega
  clear hm hcl hn h
  go_enter Try.func15, Try.ntmps15
  go_wp2_with fail
  refine (len_any b g N T _ HB.out).mono ?_
  rintro e w1 ⟨rfl, rfl⟩
  go_wp2_with fail
  refine (hmayc _).mono ?_
  rintro e w2 ⟨rfl, m2⟩
  have HX2 := Lib.hid ((m2.block _ (lt_of hbx) (fun x => x)).trans hbx)
  have HR2 := Lib.hid ((m2.block _ (lt_of hbr) (fun x => x)).trans hbr)
  have HB2 := Lib.hid (HB.out.mod m2 (fun x => x) (fun x => x))
  have HM2 := Lib.hid (hMW.trans m2)
  clear hmayc hbx hbr d0 d1 hMW HB m2 hW
  go_wp2_with fail
  refine (hclc _).mono ?_
  rintro e w2 ⟨rfl, rfl⟩
  have d0 : w2.cell? ⟨w.heap.size, 0, none⟩ = some (.int .i64 X) := (cell_of HX2.out 0).trans rfl
  have d1 : w2.cell? ⟨w.heap.size, 1, none⟩ = some (.int .i64 c) := (cell_of HX2.out 1).trans rfl
  go_wp2_with fail
  refine (hcnt _).mono ?_
  rintro e w3 ⟨rfl, m3⟩
  have HX3 := Lib.hid ((m3.block _ (lt_of HX2.out) (fun x => x)).trans HX2.out)
  have HR3 := Lib.hid ((m3.block _ (lt_of HR2.out) (fun x => x)).trans HR2.out)
  have HB3 := Lib.hid (HB2.out.mod m3 (fun x => x) (fun x => x))
  have HM3 := Lib.hid (HM2.out.trans m3)
  clear HX2 HR2 HB2 HM2 d0 d1 m3 hclc hcnt
  have d0 : w3.cell? ⟨w.heap.size, 0, none⟩ = some (.int .i64 X) := (cell_of HX3.out 0).trans rfl
  have d1 : w3.cell? ⟨w.heap.size, 1, none⟩ = some (.int .i64 c) := (cell_of HX3.out 1).trans rfl
  have s1 : ((k : Int) == c) = false := by simp; omega
  have s2 : decide (c < k) = true := by simp [hlt]
  go_wp2
  go_loop [37] (fun i => ∃ q : Nat, q ≤ m ∧ i = .int .i64 q) (fun i => m - (intOf i).toNat)
  case atStart => exact ⟨0, Nat.zero_le _, rfl⟩
  case round =>
    obtain ⟨q, hq, rfl⟩ := hrel
    by_cases hlq : q < m
    · have t1 : decide (q < m) = true := by simp [hlq]
      have hI := Is_any b g N T ((X : Int) + q) w3 HB3.out
      have hr : isR N T ((X : Int) + q) = (true, 0) := by
        unfold isR
        rw [if_neg (by omega), show ((X : Int) + q).toNat = X + q from by omega, hT q hlq]
      rw [hr] at hI
      clear hr
      go_wp2_with fail
      refine hI.mono ?_
      rintro e w4 ⟨rfl, rfl⟩
      go_wp2
      go_round
      case rel => exact ⟨q + 1, hlq, by go_num⟩
      case measure => simp [intOf]; omega
    · have t1 : decide (q < m) = false := by simp; omega
      have hTk := Take_any b g N T k w3 HB3.out
      rw [htk] at hTk
      go_wp2_with fail
      refine hTk.mono ?_
      rintro e w4 ⟨rfl, hb4, m4⟩
      have HX4 := Lib.hid ((m4.block _ (lt_of HX3.out) (fun e => by omega)).trans HX3.out)
      have HR4 := Lib.hid ((m4.block _ (lt_of HR3.out) (fun e => by omega)).trans HR3.out)
      have HB4 := Lib.hid hb4
      have HM4 : Hid (Mod (· = g) w w4) := (HM3.out.mono (fun _ _ x => x.elim)).trans m4
      have d0 : w4.cell? ⟨w.heap.size, 0, none⟩ = some (.int .i64 X) := (cell_of HX4.out 0).trans rfl
      have hGv := give_any b g N T' X m w4 HB4.out (by omega) (by omega)
      rw [hgv] at hGv
      clear hb4 m4 hTk
      go_wp2_with fail
      refine hGv.mono ?_
      rintro e w5 ⟨rfl, hb5, m5⟩
      have HR5 := Lib.hid ((m5.block _ (lt_of HR4.out) (fun e => by omega)).trans HR4.out)
      have r0 : w5.cell? ⟨w.heap.size + 1, 0, none⟩ = some (.int .i64 0) := (cell_of HR5.out 0).trans rfl
      have r1 : w5.cell? ⟨w.heap.size + 1, 1, none⟩ = some (.int .i64 0) := (cell_of HR5.out 1).trans rfl
      have rf0 : w5.frozen? ⟨w.heap.size + 1, 0, none⟩ = false := free_of HR5.out 0
      have rf1 : w5.frozen? ⟨w.heap.size + 1, 1, none⟩ = false := free_of HR5.out 1
      have HB5 := Lib.hid hb5
      have HM5 := Lib.hid (HM4.out.trans m5)
      clear hb5 m5 hGv
      go_wp2
      have hbl : b < w.heap.size := hbw
      obtain ⟨W6, hW6⟩ : ∃ W6, ((w5.setCell ⟨w.heap.size + 1, 0, none⟩ (.int .i64 at_)).setCell ⟨w.heap.size + 1, 1, none⟩ (.int .i64 k)) = W6 := ⟨_, rfl⟩
      have h6 : W6.heap[w.heap.size + 1]? = some (.cells #[.int .i64 at_, .int .i64 k] 23 (0, 0)) := by subst hW6; exact heap_set (heap_set HR5.out 0 _) 1 _
      have hm6 : Mod (· = w.heap.size + 1) w5 W6 := by subst hW6; exact (Mod.set1 w5 _ 0 _).trans (Mod.set1 _ _ 1 _)
      rw [hW6]
      have z0 : W6.cell? ⟨w.heap.size + 1, 0, none⟩ = some (.int .i64 at_) := (cell_of h6 0).trans rfl
      have z1 : W6.cell? ⟨w.heap.size + 1, 1, none⟩ = some (.int .i64 k) := (cell_of h6 1).trans rfl
      refine bodyPost_ret (v := .tuple #[.agg #[.int .i64 at_, .int .i64 k], .int .i64 0]) ?_ rfl ⟨rfl, HB5.out.mod hm6 (by omega) (by omega), HM5.out.trans' hm6 (fun j hj e => by omega)⟩
      simp [results, Try.f15, go_sem, z0, z1]
end Go.Proofs.Ytfmlgleeojblkaa
