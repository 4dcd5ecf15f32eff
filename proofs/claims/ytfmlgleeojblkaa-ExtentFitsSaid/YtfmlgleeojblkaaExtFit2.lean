/- Fit, at any extent and any number of bytes. -/
import Derived.Test.YtfmlgleeojblkaaExtFit
import Derived.Test.YtfmlgleeojblkaaExtRBits
import Derived.Deep.RegionHeld3
namespace Go.Proofs.Ytfmlgleeojblkaa
open Go.RowKit

def heldR (N : Nat) (T : Nat → Bool) (X c : Int) : Bool := decide (X.toNat + nblk c ≤ N) && areT T X.toNat (nblk c) true
/-- Fit: the extent then, the answer, and what is taken then -/
def fitR (N : Nat) (T : Nat → Bool) (X c bytes : Int) : (Int × Int) × Int × (Nat → Bool) :=
  if mayB X c = false then ((0, 0), 2, T) else
  if (classR bytes).2 ≠ 0 then ((0, 0), (classR bytes).2, T) else
  if heldR N T X c = false then ((0, 0), 3, T) else
  if (classR bytes).1 = c then ((X, c), 0, T) else
  if c < (classR bytes).1 then
    (if (takeR N T (classR bytes).1).2.1 ≠ 0 then ((0, 0), (takeR N T (classR bytes).1).2.1, T)
     else (((takeR N T (classR bytes).1).1, (classR bytes).1), 0, turnT N (takeR N T (classR bytes).1).2.2 X (nblk c) true))
  else if (classR bytes).1 < 0 then ((0, -1), 0, turnT N T X (nblk c) true)
  else ((X, (classR bytes).1), 0, turnT N T (X + nblk (classR bytes).1) ((nblk c : Int) - nblk (classR bytes).1) true)

theorem mayB_lo' {X c : Int} (h : mayB X c = true) : 0 ≤ X ∧ X ≤ 16384 := by
  simp only [mayB, Bool.or_eq_true, Bool.and_eq_true, decide_eq_true_eq] at h
  omega
theorem classR_cases (x : Int) : classR x = (0, 2) ∨ classR x = (0, 4) ∨ ∃ k : Int, classR x = (k, 0) ∧ -1 ≤ k ∧ k ≤ 4 := by
  unfold classR
  split
  · exact .inl rfl
  · split
    · exact .inr (.inl rfl)
    · exact .inr (.inr ⟨cls x, rfl, cls_le x⟩)
theorem may_none {X c : Int} (h : mayB X c = true) (hn : nblk c = 0) : X = 0 := by
  simp only [mayB, Bool.or_eq_true, Bool.and_eq_true, decide_eq_true_eq] at h
  omega
theorem may_lo {X c : Int} (h : mayB X c = true) : -1 ≤ c ∧ c ≤ 4 := by
  have := nblk_cases c
  simp only [mayB, Bool.or_eq_true, Bool.and_eq_true, decide_eq_true_eq] at h
  omega
theorem keep2 {W : World} {s t : Nat} {u v v' : Value} (h : W.cell? ⟨s, 0, none⟩ = some u) (hne : s ≠ t) : ((W.setCell ⟨t, 0, none⟩ v).setCell ⟨t, 1, none⟩ v').cell? ⟨s, 0, none⟩ = some u :=
  (World.cell?_of_block (a := ⟨s, 0, none⟩) (((Mod.set1 W t 0 v).trans (Mod.set1 _ t 1 v')).block s (World.block_lt_of_cell? _ _ h) hne)).trans h
theorem nblk_mono {a b : Int} (h : a ≤ b) (h2 : b ≤ 4) : nblk a ≤ nblk b := by
  have h3 := nblk_cases a
  have h4 := nblk_cases b
  omega
theorem held_at {N : Nat} {T : Nat → Bool} {X : Nat} {c : Int} (h : heldR N T X c = true) : X + nblk c ≤ N ∧ ∀ i, i < nblk c → T (X + i) = true := by
  simp only [heldR, Bool.and_eq_true, decide_eq_true_eq, Int.toNat_natCast] at h
  exact ⟨h.1, fun i hi => areT_all h.2 (X + i) (by omega) (by omega)⟩
theorem turnE_nat {N : Nat} {T : Nat → Bool} {a k : Nat} (hf : a + k ≤ N) (h : ∀ i, i < k → T (a + i) = true) : turnE N T a k true = 0 := by
  unfold turnE
  rw [if_pos (fits_of hf), Int.toNat_natCast, Int.toNat_natCast, if_pos (areT_true h)]
theorem take_keeps {N : Nat} {T : Nat → Bool} {k : Nat} {i : Nat} (h : T i = true) : (takeR N T k).2.2 i = true := by
  unfold takeR
  split
  · exact h
  · split
    · simp only [putN]; split
      · rfl
      · exact h
    · exact h

set_option maxRecDepth 100000 in
set_option maxHeartbeats 4000000 in
theorem fit_any (b g N : Nat) (T : Nat → Bool) (X c bytes : Int) (w : World) (h : BitsAt w b g N T) (hX : I64' X) (hc : I64' c) :
    Calls Try.prog 15 #[.pointer (some ⟨b, 0, none⟩), .agg #[.int .i64 X, .int .i64 c], .int .i64 bytes] w fun e w' =>
      e = .returned (.tuple #[.agg #[.int .i64 (fitR N T X c bytes).1.1, .int .i64 (fitR N T X c bytes).1.2], .int .i64 (fitR N T X c bytes).2.1]) ∧ BitsAt w' b g N (fitR N T X c bytes).2.2 ∧ Mod (· = g) w w' := by
  have hn1 := h.n1
  have hn2 := h.n2
  have hm16 : nblk c ≤ 16 := nblk_le c
  obtain ⟨W, hW⟩ : ∃ W, (w.alloc (.cells #[.int .i64 X, .int .i64 c] 23)).alloc (.cells #[.int .i64 0, .int .i64 0] 23) = W := ⟨_, rfl⟩
  have hbx : W.heap[w.heap.size]? = some (.cells #[.int .i64 X, .int .i64 c] 23 (0, 0)) := by subst hW; exact alloc_keep (new_at _ _)
  have hbr : W.heap[w.heap.size + 1]? = some (.cells #[.int .i64 0, .int .i64 0] 23 (0, 0)) := by subst hW; exact new_at' _ _ _ (by simp)
  have hMW : Mod (fun _ => False) w W := by subst hW; exact ((Mod.refl _ w).alloc _).alloc _
  have HB := Lib.hid (h.mod hMW (fun x => x) (fun x => x))
  have hgl : g < w.heap.size := lt_of h.hg
  have hbw : b < w.heap.size := lt_of h.hb
  have d0 : W.cell? ⟨w.heap.size, 0, none⟩ = some (.int .i64 X) := (cell_of hbx 0).trans rfl
  have d1 : W.cell? ⟨w.heap.size, 1, none⟩ = some (.int .i64 c) := (cell_of hbx 1).trans rfl
  have hmayc := fun W => may_any X c W hX hc
  have hclc := fun W => class_any bytes W
  have hcnt := fun W => count_any X c W
  have t0 : (N == 0) = false := by simp; omega
  clear h
  go_enter Try.func15, Try.ntmps15
  go_wp2_with fail
  refine (len_any b g N T _ HB.out).mono ?_
  rintro e w1 ⟨rfl, rfl⟩
  go_wp2_with fail
  refine (hmayc _).mono ?_
  rintro e w2 ⟨rfl, m2⟩
  have HX2 := Lib.hid ((m2.block _ (lt_of hbx) (fun x => x)).trans hbx)
  have HR2 := Lib.hid ((m2.block _ (lt_of hbr) (fun x => x)).trans hbr)
  have HB2 := Lib.hid (HB.out.mod m2 (fun x => x) (fun x => x))
  have HM2 : Hid (Mod (· = g) w w2) := (hMW.trans m2).mono (fun _ _ x => x.elim)
  clear hmayc hbx hbr d0 d1 hMW HB m2 hW
  cases hm : mayB X c with
  | false =>
    have hv : fitR N T X c bytes = ((0, 0), 2, T) := by unfold fitR; rw [if_pos hm]
    have r0 : (w2).cell? ⟨w.heap.size + 1, 0, none⟩ = some (.int .i64 0) := (cell_of (HR2).out 0).trans rfl
    have r1 : (w2).cell? ⟨w.heap.size + 1, 1, none⟩ = some (.int .i64 0) := (cell_of (HR2).out 1).trans rfl
    have rf0 : (w2).frozen? ⟨w.heap.size + 1, 0, none⟩ = false := free_of (HR2).out 0
    have rf1 : (w2).frozen? ⟨w.heap.size + 1, 1, none⟩ = false := free_of (HR2).out 1
    go_wp2
    obtain ⟨W6, hW6⟩ : ∃ W6, (((w2).setCell ⟨w.heap.size + 1, 0, none⟩ (.int .i64 0)).setCell ⟨w.heap.size + 1, 1, none⟩ (.int .i64 0)) = W6 := ⟨_, rfl⟩
    have h6 : W6.heap[w.heap.size + 1]? = some (.cells #[.int .i64 0, .int .i64 0] 23 (0, 0)) := by subst hW6; exact heap_set (heap_set (HR2).out 0 _) 1 _
    have hm6 : Mod (· = w.heap.size + 1) w2 W6 := by subst hW6; exact (Mod.set1 _ _ 0 _).trans (Mod.set1 _ _ 1 _)
    rw [hW6]
    have z0 : W6.cell? ⟨w.heap.size + 1, 0, none⟩ = some (.int .i64 0) := (cell_of h6 0).trans rfl
    have z1 : W6.cell? ⟨w.heap.size + 1, 1, none⟩ = some (.int .i64 0) := (cell_of h6 1).trans rfl
    refine bodyPost_ret (v := .tuple #[.agg #[.int .i64 0, .int .i64 0], .int .i64 2]) ?_ rfl ⟨by first | (rw [hv]; done) | rfl, by (try rw [hv]); exact (HB2).out.mod hm6 (by omega) (by omega), (HM2).out.trans' hm6 (fun j hj e => by omega)⟩
    simp [results, Try.f15, go_sem, z0, z1]
  | true =>
    have hXb := mayB_lo' hm
    obtain ⟨x, rfl⟩ : ∃ x : Nat, X = x := ⟨X.toNat, by omega⟩
    rcases classR_cases bytes with hk | hk | ⟨k, hk, hk1, hk2⟩
    · rw [hk] at hclc
      have hv : fitR N T x c bytes = ((0, 0), 2, T) := by unfold fitR; rw [if_neg (by rw [hm]; decide), if_pos (by rw [hk]; decide), hk]
      go_wp2_with fail
      refine (hclc _).mono ?_
      rintro e w2 ⟨rfl, rfl⟩
      have r0 : (w2).cell? ⟨w.heap.size + 1, 0, none⟩ = some (.int .i64 0) := (cell_of (HR2).out 0).trans rfl
      have r1 : (w2).cell? ⟨w.heap.size + 1, 1, none⟩ = some (.int .i64 0) := (cell_of (HR2).out 1).trans rfl
      have rf0 : (w2).frozen? ⟨w.heap.size + 1, 0, none⟩ = false := free_of (HR2).out 0
      have rf1 : (w2).frozen? ⟨w.heap.size + 1, 1, none⟩ = false := free_of (HR2).out 1
      go_wp2
      obtain ⟨W6, hW6⟩ : ∃ W6, (((w2).setCell ⟨w.heap.size + 1, 0, none⟩ (.int .i64 0)).setCell ⟨w.heap.size + 1, 1, none⟩ (.int .i64 0)) = W6 := ⟨_, rfl⟩
      have h6 : W6.heap[w.heap.size + 1]? = some (.cells #[.int .i64 0, .int .i64 0] 23 (0, 0)) := by subst hW6; exact heap_set (heap_set (HR2).out 0 _) 1 _
      have hm6 : Mod (· = w.heap.size + 1) w2 W6 := by subst hW6; exact (Mod.set1 _ _ 0 _).trans (Mod.set1 _ _ 1 _)
      rw [hW6]
      have z0 : W6.cell? ⟨w.heap.size + 1, 0, none⟩ = some (.int .i64 0) := (cell_of h6 0).trans rfl
      have z1 : W6.cell? ⟨w.heap.size + 1, 1, none⟩ = some (.int .i64 0) := (cell_of h6 1).trans rfl
      refine bodyPost_ret (v := .tuple #[.agg #[.int .i64 0, .int .i64 0], .int .i64 2]) ?_ rfl ⟨by first | (rw [hv]; done) | rfl, by (try rw [hv]); exact (HB2).out.mod hm6 (by omega) (by omega), (HM2).out.trans' hm6 (fun j hj e => by omega)⟩
      simp [results, Try.f15, go_sem, z0, z1]
    · rw [hk] at hclc
      have hv : fitR N T x c bytes = ((0, 0), 4, T) := by unfold fitR; rw [if_neg (by rw [hm]; decide), if_pos (by rw [hk]; decide), hk]
      go_wp2_with fail
      refine (hclc _).mono ?_
      rintro e w2 ⟨rfl, rfl⟩
      have r0 : (w2).cell? ⟨w.heap.size + 1, 0, none⟩ = some (.int .i64 0) := (cell_of (HR2).out 0).trans rfl
      have r1 : (w2).cell? ⟨w.heap.size + 1, 1, none⟩ = some (.int .i64 0) := (cell_of (HR2).out 1).trans rfl
      have rf0 : (w2).frozen? ⟨w.heap.size + 1, 0, none⟩ = false := free_of (HR2).out 0
      have rf1 : (w2).frozen? ⟨w.heap.size + 1, 1, none⟩ = false := free_of (HR2).out 1
      go_wp2
      obtain ⟨W6, hW6⟩ : ∃ W6, (((w2).setCell ⟨w.heap.size + 1, 0, none⟩ (.int .i64 0)).setCell ⟨w.heap.size + 1, 1, none⟩ (.int .i64 0)) = W6 := ⟨_, rfl⟩
      have h6 : W6.heap[w.heap.size + 1]? = some (.cells #[.int .i64 0, .int .i64 0] 23 (0, 0)) := by subst hW6; exact heap_set (heap_set (HR2).out 0 _) 1 _
      have hm6 : Mod (· = w.heap.size + 1) w2 W6 := by subst hW6; exact (Mod.set1 _ _ 0 _).trans (Mod.set1 _ _ 1 _)
      rw [hW6]
      have z0 : W6.cell? ⟨w.heap.size + 1, 0, none⟩ = some (.int .i64 0) := (cell_of h6 0).trans rfl
      have z1 : W6.cell? ⟨w.heap.size + 1, 1, none⟩ = some (.int .i64 0) := (cell_of h6 1).trans rfl
      refine bodyPost_ret (v := .tuple #[.agg #[.int .i64 0, .int .i64 0], .int .i64 4]) ?_ rfl ⟨by first | (rw [hv]; done) | rfl, by (try rw [hv]); exact (HB2).out.mod hm6 (by omega) (by omega), (HM2).out.trans' hm6 (fun j hj e => by omega)⟩
      simp [results, Try.f15, go_sem, z0, z1]
    rw [hk] at hclc
    go_wp2_with fail
    refine (hclc _).mono ?_
    rintro e w2 ⟨rfl, rfl⟩
    have d0 : w2.cell? ⟨w.heap.size, 0, none⟩ = some (.int .i64 x) := (cell_of HX2.out 0).trans rfl
    have d1 : w2.cell? ⟨w.heap.size, 1, none⟩ = some (.int .i64 c) := (cell_of HX2.out 1).trans rfl
    obtain ⟨m, hn⟩ : ∃ m, nblk c = m := ⟨_, rfl⟩
    rw [hn] at hcnt hm16
    go_wp2_with fail
    refine (hcnt _).mono ?_
    rintro e w3 ⟨rfl, m3⟩
    have HX3 := Lib.hid ((m3.block _ (lt_of HX2.out) (fun x => x)).trans HX2.out)
    have HR3 := Lib.hid ((m3.block _ (lt_of HR2.out) (fun x => x)).trans HR2.out)
    have HB3 := Lib.hid (HB2.out.mod m3 (fun x => x) (fun x => x))
    have HM3 : Hid (Mod (· = g) w w3) := HM2.out.trans (m3.mono (fun _ _ x => x.elim))
    clear HX2 HR2 HB2 HM2 d0 d1 m3 hclc hcnt
    have d0 : w3.cell? ⟨w.heap.size, 0, none⟩ = some (.int .i64 x) := (cell_of HX3.out 0).trans rfl
    have d1 : w3.cell? ⟨w.heap.size, 1, none⟩ = some (.int .i64 c) := (cell_of HX3.out 1).trans rfl
    go_wp2
    go_loop [37] (fun i => ∃ q : Nat, q ≤ m ∧ i = .int .i64 q ∧ Hid (x + q ≤ N ∨ q = 0) ∧ Hid (∀ j, j < q → T (x + j) = true)) (fun i => m - (intOf i).toNat)
    case atStart => exact ⟨0, Nat.zero_le _, rfl, Or.inr rfl, fun j hj => absurd hj (Nat.not_lt_zero j)⟩
    case round =>
      obtain ⟨q, hq, rfl, HQ, HT⟩ := hrel
      by_cases hlq : q < m
      · have t1 : decide (q < m) = true := by simp [hlq]
        have hI := Is_any b g N T ((x : Int) + q) w3 HB3.out
        by_cases hqn : x + q < N
        · cases hTq : T (x + q) with
          | true =>
            have hr : isR N T ((x : Int) + q) = (true, 0) := by
              unfold isR
              rw [if_neg (by omega), show ((x : Int) + q).toNat = x + q from by omega, hTq]
            rw [hr] at hI
            clear hr
            go_wp2_with fail
            refine hI.mono ?_
            rintro e w4 ⟨rfl, rfl⟩
            go_wp2
            go_round
            case rel => exact ⟨q + 1, hlq, by go_num, Or.inl (by omega), fun j hj => by rcases Nat.lt_succ_iff_lt_or_eq.1 hj with hj | rfl; exact HT.out j hj; exact hTq⟩
            case measure => simp [intOf]; omega
          | false =>
            have hr : isR N T ((x : Int) + q) = (false, 0) := by
              unfold isR
              rw [if_neg (by omega), show ((x : Int) + q).toNat = x + q from by omega, hTq]
            have hv : fitR N T x c bytes = ((0, 0), 3, T) := by
              unfold fitR
              rw [if_neg (by rw [hm]; decide), if_neg (by rw [hk]; exact fun h => h rfl), if_pos]
              rw [Bool.eq_false_iff]
              intro hh
              have := (held_at hh).2 q (by omega)
              rw [hTq] at this
              cases this
            rw [hr] at hI
            clear hr
            go_wp2_with fail
            refine hI.mono ?_
            rintro e w4 ⟨rfl, rfl⟩
            have r0 : (w4).cell? ⟨w.heap.size + 1, 0, none⟩ = some (.int .i64 0) := (cell_of (HR3).out 0).trans rfl
            have r1 : (w4).cell? ⟨w.heap.size + 1, 1, none⟩ = some (.int .i64 0) := (cell_of (HR3).out 1).trans rfl
            have rf0 : (w4).frozen? ⟨w.heap.size + 1, 0, none⟩ = false := free_of (HR3).out 0
            have rf1 : (w4).frozen? ⟨w.heap.size + 1, 1, none⟩ = false := free_of (HR3).out 1
            go_wp2
            obtain ⟨W6, hW6⟩ : ∃ W6, (((w4).setCell ⟨w.heap.size + 1, 0, none⟩ (.int .i64 0)).setCell ⟨w.heap.size + 1, 1, none⟩ (.int .i64 0)) = W6 := ⟨_, rfl⟩
            have h6 : W6.heap[w.heap.size + 1]? = some (.cells #[.int .i64 0, .int .i64 0] 23 (0, 0)) := by subst hW6; exact heap_set (heap_set (HR3).out 0 _) 1 _
            have hm6 : Mod (· = w.heap.size + 1) w4 W6 := by subst hW6; exact (Mod.set1 _ _ 0 _).trans (Mod.set1 _ _ 1 _)
            rw [hW6]
            have z0 : W6.cell? ⟨w.heap.size + 1, 0, none⟩ = some (.int .i64 0) := (cell_of h6 0).trans rfl
            have z1 : W6.cell? ⟨w.heap.size + 1, 1, none⟩ = some (.int .i64 0) := (cell_of h6 1).trans rfl
            refine bodyPost_ret (v := .tuple #[.agg #[.int .i64 0, .int .i64 0], .int .i64 3]) ?_ rfl ⟨by first | (rw [hv]; done) | rfl, by (try rw [hv]); exact (HB3).out.mod hm6 (by omega) (by omega), (HM3).out.trans' hm6 (fun j hj e => by omega)⟩
            simp [results, Try.f15, go_sem, z0, z1]
        · have hr : isR N T ((x : Int) + q) = (false, 2) := by
            unfold isR
            rw [if_pos (by omega)]
          have hv : fitR N T x c bytes = ((0, 0), 3, T) := by
            unfold fitR
            rw [if_neg (by rw [hm]; decide), if_neg (by rw [hk]; exact fun h => h rfl), if_pos]
            rw [Bool.eq_false_iff]
            intro hh
            have := (held_at hh).1
            omega
          rw [hr] at hI
          clear hr
          go_wp2_with fail
          refine hI.mono ?_
          rintro e w4 ⟨rfl, rfl⟩
          have r0 : (w4).cell? ⟨w.heap.size + 1, 0, none⟩ = some (.int .i64 0) := (cell_of (HR3).out 0).trans rfl
          have r1 : (w4).cell? ⟨w.heap.size + 1, 1, none⟩ = some (.int .i64 0) := (cell_of (HR3).out 1).trans rfl
          have rf0 : (w4).frozen? ⟨w.heap.size + 1, 0, none⟩ = false := free_of (HR3).out 0
          have rf1 : (w4).frozen? ⟨w.heap.size + 1, 1, none⟩ = false := free_of (HR3).out 1
          go_wp2
          obtain ⟨W6, hW6⟩ : ∃ W6, (((w4).setCell ⟨w.heap.size + 1, 0, none⟩ (.int .i64 0)).setCell ⟨w.heap.size + 1, 1, none⟩ (.int .i64 0)) = W6 := ⟨_, rfl⟩
          have h6 : W6.heap[w.heap.size + 1]? = some (.cells #[.int .i64 0, .int .i64 0] 23 (0, 0)) := by subst hW6; exact heap_set (heap_set (HR3).out 0 _) 1 _
          have hm6 : Mod (· = w.heap.size + 1) w4 W6 := by subst hW6; exact (Mod.set1 _ _ 0 _).trans (Mod.set1 _ _ 1 _)
          rw [hW6]
          have z0 : W6.cell? ⟨w.heap.size + 1, 0, none⟩ = some (.int .i64 0) := (cell_of h6 0).trans rfl
          have z1 : W6.cell? ⟨w.heap.size + 1, 1, none⟩ = some (.int .i64 0) := (cell_of h6 1).trans rfl
          refine bodyPost_ret (v := .tuple #[.agg #[.int .i64 0, .int .i64 0], .int .i64 3]) ?_ rfl ⟨by first | (rw [hv]; done) | rfl, by (try rw [hv]); exact (HB3).out.mod hm6 (by omega) (by omega), (HM3).out.trans' hm6 (fun j hj e => by omega)⟩
          simp [results, Try.f15, go_sem, z0, z1]
      · have t1 : decide (q < m) = false := by simp; omega
        obtain rfl : q = m := by omega
        have hq0 : x + q ≤ N := by
          rcases HQ.out with h | h
          · exact h
          · have := may_none hm (by omega)
            omega
        have hhd : heldR N T x c = true := by
          simp only [heldR, Bool.and_eq_true, decide_eq_true_eq, Int.toNat_natCast, hn]
          exact ⟨hq0, areT_true HT.out⟩
        have hf0 : fitR N T x c bytes = (if k = c then (((x : Int), c), 0, T) else if c < k then
            (if (takeR N T k).2.1 ≠ 0 then ((0, 0), (takeR N T k).2.1, T) else (((takeR N T k).1, k), 0, turnT N (takeR N T k).2.2 x (nblk c) true))
          else if k < 0 then ((0, -1), 0, turnT N T x (nblk c) true)
          else (((x : Int), k), 0, turnT N T (x + nblk k) ((nblk c : Int) - nblk k) true)) := by
          unfold fitR
          rw [if_neg (by rw [hm]; decide), if_neg (by rw [hk]; exact fun h => h rfl), if_neg (by rw [hhd]; decide), hk]
        rw [hn] at hf0
        have HF0 := Lib.hid hf0
        clear hf0 hhd
        have hcm := may_lo hm
        by_cases hkc : k = c
        · subst hkc
          have s1 : (k == k) = true := by simp
          have hv : fitR N T x k bytes = (((x : Int), k), 0, T) := by rw [HF0.out, if_pos rfl]
          have r0 : w3.cell? ⟨w.heap.size + 1, 0, none⟩ = some (.int .i64 0) := (cell_of HR3.out 0).trans rfl
          have r1 : w3.cell? ⟨w.heap.size + 1, 1, none⟩ = some (.int .i64 0) := (cell_of HR3.out 1).trans rfl
          have rf0 : w3.frozen? ⟨w.heap.size + 1, 0, none⟩ = false := free_of HR3.out 0
          have rf1 : w3.frozen? ⟨w.heap.size + 1, 1, none⟩ = false := free_of HR3.out 1
          go_wp2
          obtain ⟨W6, hW6⟩ : ∃ W6, (((w3).setCell ⟨w.heap.size + 1, 0, none⟩ (.int .i64 x)).setCell ⟨w.heap.size + 1, 1, none⟩ (.int .i64 k)) = W6 := ⟨_, rfl⟩
          have h6 : W6.heap[w.heap.size + 1]? = some (.cells #[.int .i64 x, .int .i64 k] 23 (0, 0)) := by subst hW6; exact heap_set (heap_set (HR3).out 0 _) 1 _
          have hm6 : Mod (· = w.heap.size + 1) w3 W6 := by subst hW6; exact (Mod.set1 _ _ 0 _).trans (Mod.set1 _ _ 1 _)
          rw [hW6]
          have z0 : W6.cell? ⟨w.heap.size + 1, 0, none⟩ = some (.int .i64 x) := (cell_of h6 0).trans rfl
          have z1 : W6.cell? ⟨w.heap.size + 1, 1, none⟩ = some (.int .i64 k) := (cell_of h6 1).trans rfl
          refine bodyPost_ret (v := .tuple #[.agg #[.int .i64 x, .int .i64 k], .int .i64 0]) ?_ rfl ⟨by first | (rw [hv]; done) | rfl, by (try rw [hv]); exact (HB3).out.mod hm6 (by omega) (by omega), (HM3).out.trans' hm6 (fun j hj e => by omega)⟩
          simp [results, Try.f15, go_sem, z0, z1]
        have s1 : (k == c) = false := by simp [hkc]
        by_cases hck : c < k
        · have s2 : decide (c < k) = true := by simp [hck]
          obtain ⟨k, rfl⟩ : ∃ k' : Nat, k = k' := ⟨k.toNat, by omega⟩
          have hTk := Take_any b g N T k w3 HB3.out
          cases hf : (spots N (2 ^ k)).find? (isFree T N (2 ^ k)) with
          | none =>
            have htk := takeR_none N T k (by omega) hf
            rw [htk] at hTk
            have hv : fitR N T x c bytes = ((0, 0), 6, T) := by rw [HF0.out, if_neg hkc, if_pos hck, htk, if_pos (fun h => by cases h)]
            go_wp2_with fail
            refine hTk.mono ?_
            rintro e w4 ⟨rfl, hb4, m4⟩
            have HR4 := Lib.hid ((m4.block _ (lt_of HR3.out) (fun e => by omega)).trans HR3.out)
            have HB4 := Lib.hid hb4
            have HM4 : Hid (Mod (· = g) w w4) := HM3.out.trans m4
            clear hb4 m4 hTk
            have r0 : (w4).cell? ⟨w.heap.size + 1, 0, none⟩ = some (.int .i64 0) := (cell_of (HR4).out 0).trans rfl
            have r1 : (w4).cell? ⟨w.heap.size + 1, 1, none⟩ = some (.int .i64 0) := (cell_of (HR4).out 1).trans rfl
            have rf0 : (w4).frozen? ⟨w.heap.size + 1, 0, none⟩ = false := free_of (HR4).out 0
            have rf1 : (w4).frozen? ⟨w.heap.size + 1, 1, none⟩ = false := free_of (HR4).out 1
            go_wp2
            obtain ⟨W6, hW6⟩ : ∃ W6, (((w4).setCell ⟨w.heap.size + 1, 0, none⟩ (.int .i64 0)).setCell ⟨w.heap.size + 1, 1, none⟩ (.int .i64 0)) = W6 := ⟨_, rfl⟩
            have h6 : W6.heap[w.heap.size + 1]? = some (.cells #[.int .i64 0, .int .i64 0] 23 (0, 0)) := by subst hW6; exact heap_set (heap_set (HR4).out 0 _) 1 _
            have hm6 : Mod (· = w.heap.size + 1) w4 W6 := by subst hW6; exact (Mod.set1 _ _ 0 _).trans (Mod.set1 _ _ 1 _)
            rw [hW6]
            have z0 : W6.cell? ⟨w.heap.size + 1, 0, none⟩ = some (.int .i64 0) := (cell_of h6 0).trans rfl
            have z1 : W6.cell? ⟨w.heap.size + 1, 1, none⟩ = some (.int .i64 0) := (cell_of h6 1).trans rfl
            refine bodyPost_ret (v := .tuple #[.agg #[.int .i64 0, .int .i64 0], .int .i64 6]) ?_ rfl ⟨by first | (rw [hv]; done) | rfl, by (try rw [hv]); exact (HB4).out.mod hm6 (by omega) (by omega), (HM4).out.trans' hm6 (fun j hj e => by omega)⟩
            simp [results, Try.f15, go_sem, z0, z1]
          | some sp =>
            have htk := takeR_some N T k (by omega) sp hf
            obtain ⟨a, ha⟩ := sp
            simp only at htk
            have hkeep : ∀ i, i < q → putN T a (2 ^ k) true (x + i) = true := fun i hi => by
              have := take_keeps (N := N) (k := k) (HT.out i hi)
              rw [htk] at this
              exact this
            obtain ⟨T', hT'⟩ : ∃ T', putN T a (2 ^ k) true = T' := ⟨_, rfl⟩
            rw [hT'] at htk hkeep
            rw [htk] at hTk
            have hgv := turnE_nat hq0 hkeep
            have hv : fitR N T x c bytes = (((a : Int), (k : Int)), 0, turnT N T' x q true) := by rw [HF0.out, if_neg hkc, if_pos hck, htk, if_neg (fun h => h rfl)]
            clear hf hT' hkeep
            go_wp2_with fail
            refine hTk.mono ?_
            rintro e w4 ⟨rfl, hb4, m4⟩
            have HX4 := Lib.hid ((m4.block _ (lt_of HX3.out) (fun e => by omega)).trans HX3.out)
            have HR4 := Lib.hid ((m4.block _ (lt_of HR3.out) (fun e => by omega)).trans HR3.out)
            have HB4 := Lib.hid hb4
            have HM4 : Hid (Mod (· = g) w w4) := HM3.out.trans m4
            have d0 : w4.cell? ⟨w.heap.size, 0, none⟩ = some (.int .i64 x) := (cell_of HX4.out 0).trans rfl
            have hGv := give_any b g N T' x q w4 HB4.out (by omega) (by omega)
            rw [hgv] at hGv
            clear hb4 m4 hTk
            go_wp2_with fail
            refine hGv.mono ?_
            rintro e w5 ⟨rfl, hb5, m5⟩
            have HR5 := Lib.hid ((m5.block _ (lt_of HR4.out) (fun e => by omega)).trans HR4.out)
            have r0 : w5.cell? ⟨w.heap.size + 1, 0, none⟩ = some (.int .i64 0) := (cell_of HR5.out 0).trans rfl
            have r1 : w5.cell? ⟨w.heap.size + 1, 1, none⟩ = some (.int .i64 0) := (cell_of HR5.out 1).trans rfl
            have rf0 : w5.frozen? ⟨w.heap.size + 1, 0, none⟩ = false := free_of HR5.out 0
            have rf1 : w5.frozen? ⟨w.heap.size + 1, 1, none⟩ = false := free_of HR5.out 1
            have HB5 := Lib.hid hb5
            have HM5 : Hid (Mod (· = g) w w5) := HM4.out.trans m5
            clear hb5 m5 hGv
            go_wp2
            obtain ⟨W6, hW6⟩ : ∃ W6, (((w5).setCell ⟨w.heap.size + 1, 0, none⟩ (.int .i64 a)).setCell ⟨w.heap.size + 1, 1, none⟩ (.int .i64 k)) = W6 := ⟨_, rfl⟩
            have h6 : W6.heap[w.heap.size + 1]? = some (.cells #[.int .i64 a, .int .i64 k] 23 (0, 0)) := by subst hW6; exact heap_set (heap_set (HR5).out 0 _) 1 _
            have hm6 : Mod (· = w.heap.size + 1) w5 W6 := by subst hW6; exact (Mod.set1 _ _ 0 _).trans (Mod.set1 _ _ 1 _)
            rw [hW6]
            have z0 : W6.cell? ⟨w.heap.size + 1, 0, none⟩ = some (.int .i64 a) := (cell_of h6 0).trans rfl
            have z1 : W6.cell? ⟨w.heap.size + 1, 1, none⟩ = some (.int .i64 k) := (cell_of h6 1).trans rfl
            refine bodyPost_ret (v := .tuple #[.agg #[.int .i64 a, .int .i64 k], .int .i64 0]) ?_ rfl ⟨by first | (rw [hv]; done) | rfl, by (try rw [hv]); exact (HB5).out.mod hm6 (by omega) (by omega), (HM5).out.trans' hm6 (fun j hj e => by omega)⟩
            simp [results, Try.f15, go_sem, z0, z1]
        have s2 : decide (c < k) = false := by simp; omega
        have hgd := give_any b g N T
        by_cases hk0 : k < 0
        · have s3 : decide (k < 0) = true := by simp [hk0]
          have hv : fitR N T x c bytes = ((0, -1), 0, turnT N T x q true) := by rw [HF0.out, if_neg hkc, if_neg hck, if_pos hk0]
          have hgv := turnE_nat hq0 HT.out
          have HX := HX3
          have HB4 := Lib.hid (HB3.out.mod ((Mod.refl (fun _ => False) w3).drew) (fun x => x) (fun x => x))
          have HR4 : Hid (w3.drew.heap[w.heap.size + 1]? = some (.cells #[.int .i64 0, .int .i64 0] 23 (0, 0))) := HR3.out
          have hS0 : w3.drew.cell? ⟨w.heap.size, 0, none⟩ = some (.int .i64 x) := d0
          go_wp2
          go_region_held3 (fun w' => w'.cell? ⟨w.heap.size, 0, none⟩ = some (.int .i64 x)) (first | exact hS0 | exact hS4 | exact hS5 | exact keep2 hS5 (by omega)) (first
            | (go_at_call 31; refine (none_any _).mono ?_; rintro e w4 ⟨rfl, m4⟩; have hS4 := (World.cell?_of_block (a := ⟨w.heap.size, 0, none⟩) (m4.block _ (lt_of HX.out) (fun x => x))).trans hS0; have HB5 := Lib.hid (HB4.out.mod m4 (fun x => x) (fun x => x)); have HR5 := Lib.hid ((m4.block _ (lt_of HR4.out) (fun x => x)).trans HR4.out); have M4 : Hid (Mod (· = g) w w4) := HM3.out.trans ((Mod.refl _ w3).drew.trans (m4.mono (fun _ _ x => x.elim))))
            | (go_at_call 35; refine (hgd x q _ HB5.out (by omega) (by omega)).mono ?_; rw [hgv]; rintro e w5 ⟨rfl, hb5, m5⟩; have hS5 := (World.cell?_of_block (a := ⟨w.heap.size, 0, none⟩) (m5.block w.heap.size (World.block_lt_of_cell? _ _ hS4) (fun e => by omega))).trans hS4; have HB6 := Lib.hid hb5; have HR6 := Lib.hid ((m5.block _ (lt_of HR5.out) (fun e => by omega)).trans HR5.out); have M5 : Hid (Mod (· = g) w w5) := M4.out.trans m5;
                have r0 : w5.cell? ⟨w.heap.size + 1, 0, none⟩ = some (.int .i64 0) := (cell_of HR6.out 0).trans rfl;
                have r1 : w5.cell? ⟨w.heap.size + 1, 1, none⟩ = some (.int .i64 0) := (cell_of HR6.out 1).trans rfl;
                have rf0 : w5.frozen? ⟨w.heap.size + 1, 0, none⟩ = false := free_of HR6.out 0;
                have rf1 : w5.frozen? ⟨w.heap.size + 1, 1, none⟩ = false := free_of HR6.out 1))
          go_wp2
          obtain ⟨W6, hW6⟩ : ∃ W6, (((w5).setCell ⟨w.heap.size + 1, 0, none⟩ (.int .i64 0)).setCell ⟨w.heap.size + 1, 1, none⟩ (.int .i64 (-1))) = W6 := ⟨_, rfl⟩
          have h6 : W6.heap[w.heap.size + 1]? = some (.cells #[.int .i64 0, .int .i64 (-1)] 23 (0, 0)) := by subst hW6; exact heap_set (heap_set (HR6).out 0 _) 1 _
          have hm6 : Mod (· = w.heap.size + 1) w5 W6 := by subst hW6; exact (Mod.set1 _ _ 0 _).trans (Mod.set1 _ _ 1 _)
          rw [hW6]
          have z0 : W6.cell? ⟨w.heap.size + 1, 0, none⟩ = some (.int .i64 0) := (cell_of h6 0).trans rfl
          have z1 : W6.cell? ⟨w.heap.size + 1, 1, none⟩ = some (.int .i64 (-1)) := (cell_of h6 1).trans rfl
          refine bodyPost_ret (v := .tuple #[.agg #[.int .i64 0, .int .i64 (-1)], .int .i64 0]) ?_ rfl ⟨by first | (rw [hv]; done) | rfl, by (try rw [hv]); exact (HB6).out.mod hm6 (by omega) (by omega), (M5).out.trans' hm6 (fun j hj e => by omega)⟩
          simp [results, Try.f15, go_sem, z0, z1]
        · have s3 : decide (k < 0) = false := by simp; omega
          obtain ⟨k, rfl⟩ : ∃ k' : Nat, k = k' := ⟨k.toNat, by omega⟩
          obtain ⟨y, hy⟩ : ∃ y, nblk (k : Int) = y := ⟨_, rfl⟩
          have hyq : y ≤ q := by rw [← hy, ← hn]; exact nblk_mono (by omega) (by omega)
          have hv : fitR N T x c bytes = (((x : Int), (k : Int)), 0, turnT N T ((x : Int) + y) ((q : Int) - y) true) := by rw [HF0.out, if_neg hkc, if_neg hck, if_neg hk0, hy]
          have hgv : turnE N T ((x : Int) + y) ((q : Int) - y) true = 0 := by
            have := turnE_nat (N := N) (T := T) (a := x + y) (k := q - y) (by omega) (fun i hi => by rw [Nat.add_assoc]; exact HT.out (y + i) (by omega))
            rw [show ((x + y : Nat) : Int) = (x : Int) + y from by omega, show ((q - y : Nat) : Int) = (q : Int) - y from by omega] at this
            exact this
          have hcy := fun W => count_any x k W
          rw [hy] at hcy
          obtain ⟨W7, hW7⟩ : ∃ W7, w3.alloc (.cells #[.int .i64 x, .int .i64 k] 23) = W7 := ⟨_, rfl⟩
          have m7 : Mod (fun _ => False) w3 W7 := by subst hW7; exact (Mod.refl _ _).alloc _
          have hby : W7.heap[w3.heap.size]? = some (.cells #[.int .i64 x, .int .i64 k] 23 (0, 0)) := by subst hW7; exact new_at _ _
          have hs3 : w.heap.size + 1 < w3.heap.size := lt_of HR3.out
          have HBc := Lib.hid (HB3.out.mod m7.drew (fun x => x) (fun x => x))
          have HRc : Hid (W7.drew.heap[w.heap.size + 1]? = some (.cells #[.int .i64 0, .int .i64 0] 23 (0, 0))) := (m7.block _ (lt_of HR3.out) (fun x => x)).trans HR3.out
          have Mc : Hid (Mod (· = g) w W7.drew) := HM3.out.trans (m7.drew.mono (fun _ _ x => x.elim))
          have hS0 : (W7.drew.cell? ⟨w.heap.size, 0, none⟩ = some (.int .i64 x) ∧ W7.drew.cell? ⟨w3.heap.size, 0, none⟩ = some (.int .i64 x) ∧ W7.drew.cell? ⟨w3.heap.size, 1, none⟩ = some (.int .i64 k)) :=
            ⟨(World.cell?_of_block (a := ⟨w.heap.size, 0, none⟩) (m7.block _ (lt_of HX3.out) (fun x => x))).trans d0, (cell_of hby 0).trans rfl, (cell_of hby 1).trans rfl⟩
          have hSk : ∀ A B, ((A : World).cell? ⟨w.heap.size, 0, none⟩ = some (.int .i64 x) ∧ A.cell? ⟨w3.heap.size, 0, none⟩ = some (.int .i64 x) ∧ A.cell? ⟨w3.heap.size, 1, none⟩ = some (.int .i64 k)) → Mod (· = g) A B →
              (B.cell? ⟨w.heap.size, 0, none⟩ = some (.int .i64 x) ∧ B.cell? ⟨w3.heap.size, 0, none⟩ = some (.int .i64 x) ∧ B.cell? ⟨w3.heap.size, 1, none⟩ = some (.int .i64 k)) := by
            rintro A B ⟨h1, h2, h3⟩ hm
            exact ⟨(World.cell?_of_block (a := ⟨w.heap.size, 0, none⟩) (hm.block w.heap.size (World.block_lt_of_cell? _ _ h1) (fun e => by omega))).trans h1,
              (World.cell?_of_block (a := ⟨w3.heap.size, 0, none⟩) (hm.block w3.heap.size (World.block_lt_of_cell? _ _ h2) (fun e => by omega))).trans h2,
              (World.cell?_of_block (a := ⟨w3.heap.size, 1, none⟩) (hm.block w3.heap.size (World.block_lt_of_cell? _ _ h2) (fun e => by omega))).trans h3⟩
          have hSs : ∀ A u v, ((A : World).cell? ⟨w.heap.size, 0, none⟩ = some (.int .i64 x) ∧ A.cell? ⟨w3.heap.size, 0, none⟩ = some (.int .i64 x) ∧ A.cell? ⟨w3.heap.size, 1, none⟩ = some (.int .i64 k)) →
              (((A.setCell ⟨w.heap.size + 1, 0, none⟩ u).setCell ⟨w.heap.size + 1, 1, none⟩ v).cell? ⟨w.heap.size, 0, none⟩ = some (.int .i64 x) ∧ ((A.setCell ⟨w.heap.size + 1, 0, none⟩ u).setCell ⟨w.heap.size + 1, 1, none⟩ v).cell? ⟨w3.heap.size, 0, none⟩ = some (.int .i64 x) ∧ ((A.setCell ⟨w.heap.size + 1, 0, none⟩ u).setCell ⟨w.heap.size + 1, 1, none⟩ v).cell? ⟨w3.heap.size, 1, none⟩ = some (.int .i64 k)) := by
            rintro A u v ⟨h1, h2, h3⟩
            have hm := (Mod.set1 A (w.heap.size + 1) 0 u).trans (Mod.set1 _ (w.heap.size + 1) 1 v)
            exact ⟨(World.cell?_of_block (a := ⟨w.heap.size, 0, none⟩) (hm.block w.heap.size (World.block_lt_of_cell? _ _ h1) (fun e => by omega))).trans h1,
              (World.cell?_of_block (a := ⟨w3.heap.size, 0, none⟩) (hm.block w3.heap.size (World.block_lt_of_cell? _ _ h2) (fun e => by omega))).trans h2,
              (World.cell?_of_block (a := ⟨w3.heap.size, 1, none⟩) (hm.block w3.heap.size (World.block_lt_of_cell? _ _ h2) (fun e => by omega))).trans h3⟩
          have hgw : ∀ W, BitsAt W b g N T → Calls Try.prog 35 #[.pointer (some ⟨b, 0, none⟩), .int .i64 (IntKind.i64.wrap ((x : Int) + y)), .int .i64 (IntKind.i64.wrap ((q : Int) - y))] W fun e w' =>
              e = .returned (.int .i64 0) ∧ BitsAt w' b g N (turnT N T ((x : Int) + y) ((q : Int) - y) true) ∧ Mod (· = g) W w' := by
            intro W hW
            rw [show IntKind.i64.wrap ((x : Int) + y) = (x : Int) + y from by rw [IntKind.wrap_i64]; omega, show IntKind.i64.wrap ((q : Int) - y) = (q : Int) - y from by rw [IntKind.wrap_i64]; omega]
            have := hgd ((x : Int) + y) ((q : Int) - y) W hW (by omega) (by omega)
            rw [hgv] at this
            exact this
          clear hn hy hgv
          go_wp2
          go_region_held3 (fun w' => w'.cell? ⟨w.heap.size, 0, none⟩ = some (.int .i64 x) ∧ w'.cell? ⟨w3.heap.size, 0, none⟩ = some (.int .i64 x) ∧ w'.cell? ⟨w3.heap.size, 1, none⟩ = some (.int .i64 k)) (first | exact hS0 | exact hSk _ _ (by assumption) (by assumption) | exact hSs _ _ _ (by assumption)) (first
            | (go_at_call 30; refine (hcy _).mono ?_; rintro e w8 ⟨rfl, m8⟩; have HBc := Lib.hid (HBc.out.mod m8 (fun x => x) (fun x => x)); have HRc := Lib.hid ((m8.block _ (lt_of HRc.out) (fun x => x)).trans HRc.out); have m8' : Mod (· = g) _ w8 := m8.mono (fun _ _ x => x.elim); have Mc : Hid (Mod (· = g) w w8) := Mc.out.trans m8')
            | (go_at_call 35; refine (hgw _ HBc.out).mono ?_; rintro e w9 ⟨rfl, hb9, m9⟩; have HB9 := Lib.hid hb9; have HR9 := Lib.hid ((m9.block _ (lt_of HRc.out) (fun e => by omega)).trans HRc.out); have M9 : Hid (Mod (· = g) w w9) := Mc.out.trans m9;
                have r0 : w9.cell? ⟨w.heap.size + 1, 0, none⟩ = some (.int .i64 0) := (cell_of HR9.out 0).trans rfl;
                have r1 : w9.cell? ⟨w.heap.size + 1, 1, none⟩ = some (.int .i64 0) := (cell_of HR9.out 1).trans rfl;
                have rf0 : w9.frozen? ⟨w.heap.size + 1, 0, none⟩ = false := free_of HR9.out 0;
                have rf1 : w9.frozen? ⟨w.heap.size + 1, 1, none⟩ = false := free_of HR9.out 1))
          go_wp2
          obtain ⟨W6, hW6⟩ : ∃ W6, (((w9).setCell ⟨w.heap.size + 1, 0, none⟩ (.int .i64 x)).setCell ⟨w.heap.size + 1, 1, none⟩ (.int .i64 k)) = W6 := ⟨_, rfl⟩
          have h6 : W6.heap[w.heap.size + 1]? = some (.cells #[.int .i64 x, .int .i64 k] 23 (0, 0)) := by subst hW6; exact heap_set (heap_set (HR9).out 0 _) 1 _
          have hm6 : Mod (· = w.heap.size + 1) w9 W6 := by subst hW6; exact (Mod.set1 _ _ 0 _).trans (Mod.set1 _ _ 1 _)
          rw [hW6]
          have z0 : W6.cell? ⟨w.heap.size + 1, 0, none⟩ = some (.int .i64 x) := (cell_of h6 0).trans rfl
          have z1 : W6.cell? ⟨w.heap.size + 1, 1, none⟩ = some (.int .i64 k) := (cell_of h6 1).trans rfl
          refine bodyPost_ret (v := .tuple #[.agg #[.int .i64 x, .int .i64 k], .int .i64 0]) ?_ rfl ⟨by first | (rw [hv]; done) | rfl, by (try rw [hv]); exact (HB9).out.mod hm6 (by omega) (by omega), (M9).out.trans' hm6 (fun j hj e => by omega)⟩
          simp [results, Try.f15, go_sem, z0, z1]
end Go.Proofs.Ytfmlgleeojblkaa
