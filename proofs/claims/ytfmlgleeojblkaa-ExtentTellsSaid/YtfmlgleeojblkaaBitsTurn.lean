/- turn, Mark and Give of the bits. -/
import Derived.Test.YtfmlgleeojblkaaBitsNew
namespace Go.Proofs.Ytfmlgleeojblkaa
open Go.RowKit

theorem pow63 (i : Nat) : 2 ^ (i % 64) < 18446744073709551616 := Nat.pow_lt_pow_right (by decide) (Nat.mod_lt i (by decide))
theorem or_put (T : Nat → Bool) (i : Nat) : bits .or .u64 (word T (i / 64) : Int) (2 ^ (i % 64)) = (word (put T i true) (i / 64) : Int) := by
  rw [word_put_true, ← bits_or_u64_nat _ _ (word_lt _ _) (pow63 i)]
  simp
theorem bits_andNot_u64_nat (a b : Nat) (ha : a < 18446744073709551616) (hb : b < 18446744073709551616) :
    bits .andNot .u64 (a : Int) (b : Int) = ((a &&& (18446744073709551615 ^^^ b) : Nat) : Int) := by
  have hx : 18446744073709551615 ^^^ b < 2 ^ 64 := Nat.xor_lt_two_pow (by omega) (by omega)
  have hy : a &&& (18446744073709551615 ^^^ b) < 2 ^ 64 := Nat.and_lt_two_pow _ hx
  have h1 : (BitVec.ofInt 64 (a : Int)).toNat = a := by
    rw [BitVec.ofInt_natCast, BitVec.toNat_ofNat]; exact Nat.mod_eq_of_lt (by omega)
  have h2 : (BitVec.ofInt 64 (b : Int)).toNat = b := by
    rw [BitVec.ofInt_natCast, BitVec.toNat_ofNat]; exact Nat.mod_eq_of_lt (by omega)
  show IntKind.u64.wrap ((BitVec.ofInt 64 (a : Int) &&& ~~~ BitVec.ofInt 64 (b : Int)).toNat : Int) = _
  rw [BitVec.not_def, BitVec.toNat_and, BitVec.toNat_xor, BitVec.toNat_allOnes, h1, h2, IntKind.wrap_u64]
  simp only [Nat.reducePow, Nat.reduceSub]
  omega
theorem andNot_put (T : Nat → Bool) (i : Nat) : bits .andNot .u64 (word T (i / 64) : Int) (2 ^ (i % 64)) = (word (put T i false) (i / 64) : Int) := by
  rw [word_put_false, ← bits_andNot_u64_nat _ _ (word_lt _ _) (pow63 i)]
  simp

def DoesBit (fn : FuncId) (v : Bool) : Prop := ∀ (b g n : Nat) (T : Nat → Bool) (i : Nat) (w : World), BitsAt w b g n T → i < n →
    Calls Try.prog fn #[.pointer (some ⟨g, i / 64, none⟩), .int .u64 (2 ^ (i % 64))] w fun e w' => e = .returned (.tuple #[]) ∧ w' = w.setCell ⟨g, i / 64, none⟩ (.int .u64 (word (put T i v) (i / 64) : Int))
theorem mark1_any : DoesBit 66 true := by
  intro b g n T i w h hi
  have c2 := h.cell i hi
  have f2 : w.frozen? ⟨g, i / 64, none⟩ = false := free_of h.hg _
  have e1 := or_put T i
  have H := Lib.hid h; clear h
  go_enter Try.func66, Try.ntmps66
  go_wp2_with fail
  go_end0
  exact ⟨rfl, rfl⟩

theorem give1_any : DoesBit 53 false := by
  intro b g n T i w h hi
  have c2 := h.cell i hi
  have f2 : w.frozen? ⟨g, i / 64, none⟩ = false := free_of h.hg _
  have e1 := andNot_put T i
  have H := Lib.hid h; clear h
  go_enter Try.func53, Try.ntmps53
  go_wp2_with fail
  go_end0
  exact ⟨rfl, rfl⟩

theorem wrap_pow (i : Nat) : IntKind.u64.wrap (2 ^ (i % 64)) = 2 ^ (i % 64) := by
  have h := pow63 i
  have h2 : ((2 : Int) ^ (i % 64)) = ((2 ^ (i % 64) : Nat) : Int) := by simp
  rw [h2]
  generalize 2 ^ (i % 64) = y at *
  rw [IntKind.wrap_u64]
  omega

/-- k bits from at_ on are so -/
def putN (T : Nat → Bool) (at_ k : Nat) (v : Bool) : Nat → Bool := fun i => if at_ ≤ i ∧ i < at_ + k then v else T i
theorem putN_zero (T : Nat → Bool) (at_ : Nat) (v : Bool) : putN T at_ 0 v = T := by
  funext i
  unfold putN
  rw [if_neg (by omega)]
theorem putN_succ (T : Nat → Bool) (at_ k : Nat) (v : Bool) : put (putN T at_ k v) (at_ + k) v = putN T at_ (k + 1) v := by
  funext i
  unfold put putN
  by_cases h : i = at_ + k
  · rw [if_pos h, if_pos (by omega)]
  · rw [if_neg h]
    by_cases h2 : at_ ≤ i ∧ i < at_ + k
    · rw [if_pos h2, if_pos (by omega)]
    · rw [if_neg h2, if_neg (by omega)]
theorem BitsAt.set {w : World} {b g n : Nat} {T : Nat → Bool} (h : BitsAt w b g n T) (i : Nat) (hi : i < n) (v : Bool) :
    BitsAt (w.setCell ⟨g, i / 64, none⟩ (.int .u64 (word (put T i v) (i / 64) : Int))) b g n (put T i v) :=
  ⟨(by have := Mod.set1 w g (i / 64) (.int .u64 (word (put T i v) (i / 64) : Int)); exact (this.block b (lt_of h.hb) h.ne).trans h.hb), by rw [heap_set h.hg, wcells_put], h.n1, h.n2, h.ne, fun j hj => by unfold put; rw [if_neg (by omega)]; exact h.out j hj⟩

/-- do these bits lie in all? -/
def fitsT (n : Nat) (at_ k : Int) : Bool := decide (0 ≤ k) && decide (k ≤ n) && decide (0 ≤ at_) && decide (at_ ≤ n - k)

theorem turn_nil (at_ k : Int) (v : Bool) (f : Value) (w : World) :
    Calls Try.prog 52 #[.pointer none, .int .i64 at_, .int .i64 k, .bool v, f] w fun e w' => e = .returned (.int .i64 1) ∧ w' = w := by
  go_enter Try.func52, Try.ntmps52
  go_wp2
  go_ret
  exact ⟨rfl, rfl⟩

theorem turn_arg (b g n : Nat) (T : Nat → Bool) (at_ k : Int) (v : Bool) (f : Value) (w : World) (h : BitsAt w b g n T) (hf : fitsT n at_ k = false)
    (hat : -9223372036854775808 ≤ at_ ∧ at_ ≤ 9223372036854775807) (hk : -9223372036854775808 ≤ k ∧ k ≤ 9223372036854775807) :
    Calls Try.prog 52 #[.pointer (some ⟨b, 0, none⟩), .int .i64 at_, .int .i64 k, .bool v, f] w fun e w' => e = .returned (.int .i64 2) ∧ w' = w := by
  have c0 : w.cell? ⟨b, 0, none⟩ = some (.int .i64 n) := (cell_of h.hb 0).trans rfl
  have hn1 := h.n1
  have hn2 := h.n2
  have t0 : decide (n = 0) = false := by simp; omega
  have H := Lib.hid h; clear h
  go_enter Try.func52, Try.ntmps52
  by_cases h1 : k < 0
  · have t1 : decide (k < 0) = true := by simp [h1]
    go_wp2
    go_ret
    exact ⟨rfl, rfl⟩
  · have t1 : decide (k < 0) = false := by simp; omega
    by_cases h2 : (n : Int) < k
    · have t2 : decide ((n : Int) < k) = true := by simp [h2]
      go_wp2
      go_ret
      exact ⟨rfl, rfl⟩
    · have t2 : decide ((n : Int) < k) = false := by simp; omega
      by_cases h3 : at_ < 0
      · have t3 : decide (at_ < 0) = true := by simp [h3]
        go_wp2
        go_ret
        exact ⟨rfl, rfl⟩
      · have t3 : decide (at_ < 0) = false := by simp; omega
        have t4 : decide ((n : Int) - k < at_) = true := by
          simp [fitsT] at hf ⊢; omega
        go_wp2
        go_ret
        exact ⟨rfl, rfl⟩

theorem turn_state (b g n : Nat) (T : Nat → Bool) (at_ k : Nat) (v : Bool) (f : Value) (w : World) (h : BitsAt w b g n T) (hf : at_ + k ≤ n) (hs : areT T at_ k v = false) :
    Calls Try.prog 52 #[.pointer (some ⟨b, 0, none⟩), .int .i64 at_, .int .i64 k, .bool v, f] w fun e w' => e = .returned (.int .i64 3) ∧ w' = w := by
  have c0 : w.cell? ⟨b, 0, none⟩ = some (.int .i64 n) := (cell_of h.hb 0).trans rfl
  have hn1 := h.n1
  have hn2 := h.n2
  have t0 : decide (n = 0) = false := by simp; omega
  have t1 : decide ((k : Int) < 0) = false := by simp
  have t2 : decide (n < k) = false := by simp; omega
  have t3 : decide ((at_ : Int) < 0) = false := by simp
  have t4 : decide ((n : Int) - k < at_) = false := by simp; omega
  have H := Lib.hid h; clear h
  go_enter Try.func52, Try.ntmps52
  go_wp2_with fail
  refine (are_any b g n T at_ k v _ H.out hf).mono ?_
  rintro e w1 ⟨rfl, rfl⟩
  go_wp2
  go_ret
  exact ⟨rfl, rfl⟩

set_option maxHeartbeats 1000000 in
theorem turn_mark (b g n : Nat) (T : Nat → Bool) (at_ k : Nat) (w : World) (h : BitsAt w b g n T) (hf : at_ + k ≤ n) (hs : areT T at_ k false = true) :
    Calls Try.prog 52 #[.pointer (some ⟨b, 0, none⟩), .int .i64 at_, .int .i64 k, .bool false, .func (.func 66) #[] #[]] w fun e w' =>
      e = .returned (.int .i64 0) ∧ BitsAt w' b g n (putN T at_ k true) ∧ Mod (· = g) w w' := by
  have c0 : w.cell? ⟨b, 0, none⟩ = some (.int .i64 n) := (cell_of h.hb 0).trans rfl
  have hn1 := h.n1
  have hn2 := h.n2
  have t0 : decide (n = 0) = false := by simp; omega
  have t1 : decide ((k : Int) < 0) = false := by simp
  have t2 : decide (n < k) = false := by simp; omega
  have t3 : decide ((at_ : Int) < 0) = false := by simp
  have t4 : decide ((n : Int) - k < at_) = false := by simp; omega
  have H := Lib.hid h; clear h
  go_enter Try.func52, Try.ntmps52
  go_wp2_with fail
  refine (are_any b g n T at_ k false _ H.out hf).mono ?_
  rintro e w ⟨rfl, rfl⟩
  go_wp2
  clear c0 t0 t1 t2 t3 t4
  go_loopw [11] (fun i W => ∃ j : Nat, j ≤ k ∧ i = .int .i64 (at_ + j : Nat) ∧ BitsAt W b g n (putN T at_ j true) ∧ Mod (· = g) w W) (fun i _ => at_ + k - (intOf i).toNat)
  case atStart => exact ⟨0, Nat.zero_le _, rfl, by rw [putN_zero]; exact H.out, Mod.refl _ _⟩
  case round =>
    obtain ⟨j, hj, rfl, hB, hM⟩ := hrel
    by_cases hlt : j < k
    · have t1 : decide (((at_ + j : Nat) : Int) < (at_ : Int) + k) = true := by simp; omega
      have c1 : wr.cell? ⟨b, 1, none⟩ = some (.slice (some ⟨g, 0, none⟩) ((n + 63) / 64) ((n + 63) / 64)) := (cell_of hB.hb 1).trans rfl
      have HB := Lib.hid hB; clear hB
      have HM := Lib.hid hM; clear hM
      go_wp2_with fail
      rw [wrap_pow (at_ + j)]
      refine (mark1_any b g n _ (at_ + j) _ HB.out (by omega)).mono ?_
      rintro e w1 ⟨rfl, rfl⟩
      have h2 : Hid (BitsAt (wr.setCell ⟨g, (at_ + j) / 64, none⟩ (.int .u64 (word (put (putN T at_ j true) (at_ + j) true) ((at_ + j) / 64) : Int))) b g n (putN T at_ (j + 1) true)) := by
        rw [← putN_succ]
        exact HB.out.set (at_ + j) (by omega) true
      have h3 : Hid (Mod (· = g) w (wr.setCell ⟨g, (at_ + j) / 64, none⟩ (.int .u64 (word (put (putN T at_ j true) (at_ + j) true) ((at_ + j) / 64) : Int)))) := HM.out.setCell (p := ⟨g, (at_ + j) / 64, none⟩) (Or.inl rfl) _
      go_wp2
      go_roundw
      case rel => exact ⟨j + 1, hlt, by go_num, h2.out, h3.out⟩
      case measure => simp [intOf]; omega
    · have t1 : decide (((at_ + j : Nat) : Int) < (at_ : Int) + k) = false := by simp; omega
      go_wp2
      go_ret
      exact ⟨rfl, by obtain rfl : j = k := by omega
                     exact hB, hM⟩
set_option maxHeartbeats 1000000 in
theorem turn_give (b g n : Nat) (T : Nat → Bool) (at_ k : Nat) (w : World) (h : BitsAt w b g n T) (hf : at_ + k ≤ n) (hs : areT T at_ k true = true) :
    Calls Try.prog 52 #[.pointer (some ⟨b, 0, none⟩), .int .i64 at_, .int .i64 k, .bool true, .func (.func 53) #[] #[]] w fun e w' =>
      e = .returned (.int .i64 0) ∧ BitsAt w' b g n (putN T at_ k false) ∧ Mod (· = g) w w' := by
  have c0 : w.cell? ⟨b, 0, none⟩ = some (.int .i64 n) := (cell_of h.hb 0).trans rfl
  have hn1 := h.n1
  have hn2 := h.n2
  have t0 : decide (n = 0) = false := by simp; omega
  have t1 : decide ((k : Int) < 0) = false := by simp
  have t2 : decide (n < k) = false := by simp; omega
  have t3 : decide ((at_ : Int) < 0) = false := by simp
  have t4 : decide ((n : Int) - k < at_) = false := by simp; omega
  have H := Lib.hid h; clear h
  go_enter Try.func52, Try.ntmps52
  go_wp2_with fail
  refine (are_any b g n T at_ k true _ H.out hf).mono ?_
  rintro e w ⟨rfl, rfl⟩
  go_wp2
  clear c0 t0 t1 t2 t3 t4
  go_loopw [11] (fun i W => ∃ j : Nat, j ≤ k ∧ i = .int .i64 (at_ + j : Nat) ∧ BitsAt W b g n (putN T at_ j false) ∧ Mod (· = g) w W) (fun i _ => at_ + k - (intOf i).toNat)
  case atStart => exact ⟨0, Nat.zero_le _, rfl, by rw [putN_zero]; exact H.out, Mod.refl _ _⟩
  case round =>
    obtain ⟨j, hj, rfl, hB, hM⟩ := hrel
    by_cases hlt : j < k
    · have t1 : decide (((at_ + j : Nat) : Int) < (at_ : Int) + k) = true := by simp; omega
      have c1 : wr.cell? ⟨b, 1, none⟩ = some (.slice (some ⟨g, 0, none⟩) ((n + 63) / 64) ((n + 63) / 64)) := (cell_of hB.hb 1).trans rfl
      have HB := Lib.hid hB; clear hB
      have HM := Lib.hid hM; clear hM
      go_wp2_with fail
      rw [wrap_pow (at_ + j)]
      refine (give1_any b g n _ (at_ + j) _ HB.out (by omega)).mono ?_
      rintro e w1 ⟨rfl, rfl⟩
      have h2 : Hid (BitsAt (wr.setCell ⟨g, (at_ + j) / 64, none⟩ (.int .u64 (word (put (putN T at_ j false) (at_ + j) false) ((at_ + j) / 64) : Int))) b g n (putN T at_ (j + 1) false)) := by
        rw [← putN_succ]
        exact HB.out.set (at_ + j) (by omega) false
      have h3 : Hid (Mod (· = g) w (wr.setCell ⟨g, (at_ + j) / 64, none⟩ (.int .u64 (word (put (putN T at_ j false) (at_ + j) false) ((at_ + j) / 64) : Int)))) := HM.out.setCell (p := ⟨g, (at_ + j) / 64, none⟩) (Or.inl rfl) _
      go_wp2
      go_roundw
      case rel => exact ⟨j + 1, hlt, by go_num, h2.out, h3.out⟩
      case measure => simp [intOf]; omega
    · have t1 : decide (((at_ + j : Nat) : Int) < (at_ : Int) + k) = false := by simp; omega
      go_wp2
      go_ret
      exact ⟨rfl, by obtain rfl : j = k := by omega
                     exact hB, hM⟩
def turnE (n : Nat) (T : Nat → Bool) (at_ k : Int) (v : Bool) : Int := if fitsT n at_ k then (if areT T at_.toNat k.toNat v then 0 else 3) else 2
def turnT (n : Nat) (T : Nat → Bool) (at_ k : Int) (v : Bool) : Nat → Bool := if turnE n T at_ k v = 0 then putN T at_.toNat k.toNat (!v) else T
theorem fits_nat {n : Nat} {at_ k : Int} (h : fitsT n at_ k = true) : at_ = (at_.toNat : Int) ∧ k = (k.toNat : Int) ∧ at_.toNat + k.toNat ≤ n := by
  simp [fitsT] at h; omega

theorem mark_nil (at_ k : Int) (w : World) :
    Calls Try.prog 51 #[.pointer none, .int .i64 at_, .int .i64 k] w fun e w' => e = .returned (.int .i64 1) ∧ w' = w := by
  go_enter Try.func51, Try.ntmps51
  go_wp2_with fail
  refine (turn_nil at_ k false _ _).mono ?_
  rintro e w1 ⟨rfl, rfl⟩
  go_wp2
  go_ret
  exact ⟨rfl, rfl⟩
theorem mark_any (b g n : Nat) (T : Nat → Bool) (at_ k : Int) (w : World) (h : BitsAt w b g n T)
    (hat : -9223372036854775808 ≤ at_ ∧ at_ ≤ 9223372036854775807) (hk : -9223372036854775808 ≤ k ∧ k ≤ 9223372036854775807) :
    Calls Try.prog 51 #[.pointer (some ⟨b, 0, none⟩), .int .i64 at_, .int .i64 k] w fun e w' =>
      e = .returned (.int .i64 (turnE n T at_ k false)) ∧ BitsAt w' b g n (turnT n T at_ k false) ∧ Mod (· = g) w w' := by
  go_enter Try.func51, Try.ntmps51
  by_cases hf : fitsT n at_ k = true
  · obtain ⟨e1, e2, e3⟩ := fits_nat hf
    generalize at_.toNat = a at *
    generalize k.toNat = c at *
    subst e1
    subst e2
    by_cases hs : areT T a c false = true
    · have q1 : turnE n T a c false = 0 := by simp [turnE, hf, hs]
      have q2 : turnT n T a c false = putN T a c (!false) := by simp [turnT, q1]
      rw [q1, q2]
      have H := Lib.hid h; clear h q1 q2
      go_wp2_with fail
      refine (turn_mark b g n T a c _ H.out e3 hs).mono ?_
      rintro e w1 ⟨rfl, h1, h2⟩
      have H1 := Lib.hid h1; clear h1
      have H2 := Lib.hid h2; clear h2
      go_wp2
      go_ret
      exact ⟨rfl, H1.out, H2.out⟩
    · have hs1 : areT T a c false = false := Bool.eq_false_iff.2 hs
      have q1 : turnE n T a c false = 3 := by simp [turnE, hf, hs1]
      have q2 : turnT n T a c false = T := by simp [turnT, q1]
      rw [q1, q2]
      have H := Lib.hid h; clear h q1 q2
      go_wp2_with fail
      refine (turn_state b g n T a c false _ _ H.out e3 hs1).mono ?_
      rintro e w1 ⟨rfl, rfl⟩
      go_wp2
      go_ret
      exact ⟨rfl, H.out, Mod.refl _ _⟩
  · have hf1 : fitsT n at_ k = false := Bool.eq_false_iff.2 hf
    have q1 : turnE n T at_ k false = 2 := by simp [turnE, hf1]
    have q2 : turnT n T at_ k false = T := by simp [turnT, q1]
    rw [q1, q2]
    have H := Lib.hid h; clear h q1 q2
    go_wp2_with fail
    refine (turn_arg b g n T at_ k false _ _ H.out hf1 hat hk).mono ?_
    rintro e w1 ⟨rfl, rfl⟩
    go_wp2
    go_ret
    exact ⟨rfl, H.out, Mod.refl _ _⟩
theorem give_nil (at_ k : Int) (w : World) :
    Calls Try.prog 35 #[.pointer none, .int .i64 at_, .int .i64 k] w fun e w' => e = .returned (.int .i64 1) ∧ w' = w := by
  go_enter Try.func35, Try.ntmps35
  go_wp2_with fail
  refine (turn_nil at_ k true _ _).mono ?_
  rintro e w1 ⟨rfl, rfl⟩
  go_wp2
  go_ret
  exact ⟨rfl, rfl⟩
theorem give_any (b g n : Nat) (T : Nat → Bool) (at_ k : Int) (w : World) (h : BitsAt w b g n T)
    (hat : -9223372036854775808 ≤ at_ ∧ at_ ≤ 9223372036854775807) (hk : -9223372036854775808 ≤ k ∧ k ≤ 9223372036854775807) :
    Calls Try.prog 35 #[.pointer (some ⟨b, 0, none⟩), .int .i64 at_, .int .i64 k] w fun e w' =>
      e = .returned (.int .i64 (turnE n T at_ k true)) ∧ BitsAt w' b g n (turnT n T at_ k true) ∧ Mod (· = g) w w' := by
  go_enter Try.func35, Try.ntmps35
  by_cases hf : fitsT n at_ k = true
  · obtain ⟨e1, e2, e3⟩ := fits_nat hf
    generalize at_.toNat = a at *
    generalize k.toNat = c at *
    subst e1
    subst e2
    by_cases hs : areT T a c true = true
    · have q1 : turnE n T a c true = 0 := by simp [turnE, hf, hs]
      have q2 : turnT n T a c true = putN T a c (!true) := by simp [turnT, q1]
      rw [q1, q2]
      have H := Lib.hid h; clear h q1 q2
      go_wp2_with fail
      refine (turn_give b g n T a c _ H.out e3 hs).mono ?_
      rintro e w1 ⟨rfl, h1, h2⟩
      have H1 := Lib.hid h1; clear h1
      have H2 := Lib.hid h2; clear h2
      go_wp2
      go_ret
      exact ⟨rfl, H1.out, H2.out⟩
    · have hs1 : areT T a c true = false := Bool.eq_false_iff.2 hs
      have q1 : turnE n T a c true = 3 := by simp [turnE, hf, hs1]
      have q2 : turnT n T a c true = T := by simp [turnT, q1]
      rw [q1, q2]
      have H := Lib.hid h; clear h q1 q2
      go_wp2_with fail
      refine (turn_state b g n T a c true _ _ H.out e3 hs1).mono ?_
      rintro e w1 ⟨rfl, rfl⟩
      go_wp2
      go_ret
      exact ⟨rfl, H.out, Mod.refl _ _⟩
  · have hf1 : fitsT n at_ k = false := Bool.eq_false_iff.2 hf
    have q1 : turnE n T at_ k true = 2 := by simp [turnE, hf1]
    have q2 : turnT n T at_ k true = T := by simp [turnT, q1]
    rw [q1, q2]
    have H := Lib.hid h; clear h q1 q2
    go_wp2_with fail
    refine (turn_arg b g n T at_ k true _ _ H.out hf1 hat hk).mono ?_
    rintro e w1 ⟨rfl, rfl⟩
    go_wp2
    go_ret
    exact ⟨rfl, H.out, Mod.refl _ _⟩
end Go.Proofs.Ytfmlgleeojblkaa
