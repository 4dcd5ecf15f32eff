/- Is, Take, Bytes of the bits; and what nil answers. -/
import Derived.Test.YtfmlgleeojblkaaBitsFind
namespace Go.Proofs.Ytfmlgleeojblkaa
open Go.RowKit

theorem len_nil (w : World) : Calls Try.prog 32 #[.pointer none] w fun e w' => e = .returned (.int .i64 0) ∧ w' = w := by
  go_enter Try.func32, Try.ntmps32
  go_wp2
  go_ret
  exact ⟨rfl, rfl⟩
theorem bytes_nil (w : World) : Calls Try.prog 17 #[.pointer none] w fun e w' => e = .returned (.string ByteArray.empty) ∧ w' = w := by
  go_enter Try.func17, Try.ntmps17
  go_wp2
  go_ret
  exact ⟨rfl, rfl⟩
theorem take_nil (i : Int) (w : World) : Calls Try.prog 34 #[.pointer none, .int .i64 i] w fun e w' => e = .returned (.tuple #[.int .i64 0, .int .i64 1]) ∧ w' = w := by
  go_enter Try.func34, Try.ntmps34
  go_wp2
  go_ret2
  exact ⟨rfl, rfl⟩
theorem is_nil (i : Int) (w : World) : Calls Try.prog 33 #[.pointer none, .int .i64 i] w fun e w' => e = .returned (.tuple #[.bool false, .int .i64 1]) ∧ w' = w := by
  go_enter Try.func33, Try.ntmps33
  go_wp2
  go_ret2
  exact ⟨rfl, rfl⟩
theorem free_nil (w : World) : Calls Try.prog 20 #[.pointer none] w fun e w' => e = .returned (.int .i64 0) ∧ w' = w := by
  go_enter Try.func20, Try.ntmps20
  go_wp2_with fail
  refine (len_nil _).mono ?_
  rintro e w1 ⟨rfl, rfl⟩
  go_wp2
  go_ret
  exact ⟨rfl, rfl⟩

/-- Is, at any number -/
def isR (n : Nat) (T : Nat → Bool) (i : Int) : Bool × Int := if i < 0 ∨ (n : Int) ≤ i then (false, 2) else (T i.toNat, 0)
theorem Is_any (b g n : Nat) (T : Nat → Bool) (i : Int) (w : World) (h : BitsAt w b g n T) :
    Calls Try.prog 33 #[.pointer (some ⟨b, 0, none⟩), .int .i64 i] w fun e w' => e = .returned (.tuple #[.bool (isR n T i).1, .int .i64 (isR n T i).2]) ∧ w' = w := by
  have c0 : w.cell? ⟨b, 0, none⟩ = some (.int .i64 n) := (cell_of h.hb 0).trans rfl
  have hn1 := h.n1
  have t0 : decide (n = 0) = false := by simp; omega
  have H := Lib.hid h; clear h
  by_cases h1 : i < 0
  · have t1 : decide (i < 0) = true := by simp [h1]
    have q : isR n T i = (false, 2) := by unfold isR; rw [if_pos (Or.inl h1)]
    rw [q]
    go_enter Try.func33, Try.ntmps33
    go_wp2
    go_ret2
    exact ⟨rfl, rfl⟩
  · by_cases h2 : (n : Int) ≤ i
    · have t1 : decide (i < 0) = false := by simp; omega
      have t2 : decide ((n : Int) ≤ i) = true := by simp [h2]
      have q : isR n T i = (false, 2) := by unfold isR; rw [if_pos (Or.inr h2)]
      rw [q]
      go_enter Try.func33, Try.ntmps33
      go_wp2
      go_ret2
      exact ⟨rfl, rfl⟩
    · have q : isR n T i = (T i.toNat, 0) := by unfold isR; rw [if_neg (by omega)]
      rw [q]
      have e1 : i = (i.toNat : Int) := by omega
      generalize i.toNat = a at *
      subst e1
      have t1 : decide ((a : Int) < 0) = false := by simp
      have t2 : decide (n ≤ a) = false := by simp; omega
      go_enter Try.func33, Try.ntmps33
      go_wp2_with fail
      refine (is_any b g n T a _ H.out (by omega)).mono ?_
      rintro e w1 ⟨rfl, rfl⟩
      go_wp2
      go_ret2
      exact ⟨rfl, rfl⟩

/-- Take: where, how, and what is taken then -/
def takeR (n : Nat) (T : Nat → Bool) (c : Int) : Int × Int × (Nat → Bool) :=
  if c < 0 ∨ 4 < c then (0, 2, T) else match (spots n (2 ^ c.toNat)).find? (isFree T n (2 ^ c.toNat)) with | some x => (x.1, 0, putN T x.1 (2 ^ c.toNat) true) | none => (0, 6, T)
theorem Take_arg (b g n : Nat) (T : Nat → Bool) (c : Int) (w : World) (h : BitsAt w b g n T) (hc : c < 0 ∨ 4 < c) :
    Calls Try.prog 34 #[.pointer (some ⟨b, 0, none⟩), .int .i64 c] w fun e w' => e = .returned (.tuple #[.int .i64 0, .int .i64 2]) ∧ w' = w := by
  have c0 : w.cell? ⟨b, 0, none⟩ = some (.int .i64 n) := (cell_of h.hb 0).trans rfl
  have hn1 := h.n1
  have t0 : decide (n = 0) = false := by simp; omega
  have H := Lib.hid h; clear h
  by_cases h1 : c < 0
  · have t1 : decide (c < 0) = true := by simp [h1]
    go_enter Try.func34, Try.ntmps34
    go_wp2
    go_ret2
    exact ⟨rfl, rfl⟩
  · have t1 : decide (c < 0) = false := by simp; omega
    have t2 : decide (4 < c) = true := by simp; omega
    go_enter Try.func34, Try.ntmps34
    go_wp2
    go_ret2
    exact ⟨rfl, rfl⟩
theorem fits_of {n a k : Nat} (h : a + k ≤ n) : fitsT n (a : Int) (k : Int) = true := by
  simp only [fitsT, Bool.and_eq_true, decide_eq_true_eq]; omega
theorem pow_le16 {c : Nat} (hc : c ≤ 4) : 1 ≤ 2 ^ c ∧ 2 ^ c ≤ 16 := ⟨Nat.one_le_two_pow, (Nat.pow_le_pow_right (by decide) hc : 2 ^ c ≤ 2 ^ 4)⟩
theorem takeR_none (n : Nat) (T : Nat → Bool) (k : Nat) (hk : k ≤ 4) (hf : (spots n (2 ^ k)).find? (isFree T n (2 ^ k)) = none) : takeR n T k = (0, 6, T) := by
  unfold takeR
  rw [if_neg (by omega)]
  simp only [Int.toNat_natCast]
  rw [hf]
theorem takeR_some (n : Nat) (T : Nat → Bool) (k : Nat) (hk : k ≤ 4) (x : Spot n (2 ^ k)) (hf : (spots n (2 ^ k)).find? (isFree T n (2 ^ k)) = some x) : takeR n T k = ((x.1 : Int), 0, putN T x.1 (2 ^ k) true) := by
  unfold takeR
  rw [if_neg (by omega)]
  simp only [Int.toNat_natCast]
  rw [hf]
theorem Take_any (b g n : Nat) (T : Nat → Bool) (c : Int) (w : World) (h : BitsAt w b g n T) :
    Calls Try.prog 34 #[.pointer (some ⟨b, 0, none⟩), .int .i64 c] w fun e w' =>
      e = .returned (.tuple #[.int .i64 (takeR n T c).1, .int .i64 (takeR n T c).2.1]) ∧ BitsAt w' b g n (takeR n T c).2.2 ∧ Mod (· = g) w w' := by
  by_cases hc : c < 0 ∨ 4 < c
  · have q : takeR n T c = (0, 2, T) := by unfold takeR; rw [if_pos hc]
    rw [q]
    refine (Take_arg b g n T c w h hc).mono ?_
    rintro e w1 ⟨rfl, rfl⟩
    exact ⟨rfl, h, Mod.refl _ _⟩
  · obtain ⟨k, rfl⟩ : ∃ k : Nat, c = k := ⟨c.toNat, by omega⟩
    have c0 : w.cell? ⟨b, 0, none⟩ = some (.int .i64 n) := (cell_of h.hb 0).trans rfl
    have hn1 := h.n1
    have hn2 := h.n2
    have hc4 : k ≤ 4 := by omega
    have t0 : decide (n = 0) = false := by simp; omega
    have t1 : decide ((k : Int) < 0) = false := by simp
    have t2 : decide (4 < (k : Int)) = false := by simp; omega
    have hfs := find_any b g n T k hc4
    unfold findT at hfs
    clear hc
    have H := Lib.hid h; clear h
    cases hf : (spots n (2 ^ k)).find? (isFree T n (2 ^ k)) with
    | none =>
      rw [hf] at hfs
      rw [takeR_none n T k hc4 hf]
      go_enter Try.func34, Try.ntmps34
      go_wp2_with fail
      refine (hfs _ H.out).mono ?_
      rintro e w1 ⟨rfl, hm⟩
      go_wp2
      go_ret2
      exact ⟨rfl, H.out.mod hm (fun x => x) (fun x => x), hm.mono (fun _ _ x => x.elim)⟩
    | some x =>
      rw [hf] at hfs
      rw [takeR_some n T k hc4 x hf]
      have hx0 := List.find?_some hf
      have hx : areT T x.1 (2 ^ k) false = true := hx0
      clear hx0
      have e1 := (find_arith n k 0 hc4 hn2 (Nat.zero_le _)).1
      have hq1 : turnE n T x.1 (2 ^ k : Nat) false = 0 := by
        have h2 := fits_of x.2
        simp only [turnE, h2, Int.toNat_natCast, if_true]
        rw [if_pos hx]
      have hq2 : turnT n T x.1 (2 ^ k : Nat) false = putN T x.1 (2 ^ k) true := by
        simp only [turnT, hq1, Int.toNat_natCast, if_true, Bool.not_false]
      have hp := pow_le16 hc4
      have hmark := fun W hW => mark_any b g n T x.1 (2 ^ k : Nat) W hW (by have := x.2; omega) (by omega)
      rw [hq1, hq2] at hmark
      simp only [Int.natCast_pow, Int.cast_ofNat_Int] at hmark
      have HX := Lib.hid (And.intro hq1 (And.intro hq2 hp)); clear hq1 hq2 hp
      have t4 : decide ((x.1 : Int) < 0) = false := by simp
      go_enter Try.func34, Try.ntmps34
      go_wp2_with fail
      refine (hfs _ H.out).mono ?_
      rintro e w1 ⟨rfl, hm⟩
      go_wp2_with fail
      refine (hmark _ (H.out.mod hm (fun x => x) (fun x => x))).mono ?_
      rintro e w2 ⟨rfl, hb2, hm2⟩
      have HB2 := Lib.hid hb2; clear hb2
      have HM2 := Lib.hid ((hm.mono (fun _ _ x => x.elim)).trans hm2 : Mod (· = g) w w2)
      go_wp2
      go_ret2
      exact ⟨rfl, HB2.out, HM2.out⟩

/-- the largest class below k that is free, or -1 -/
def largK (n : Nat) (T : Nat → Bool) : Nat → Int
  | 0 => -1
  | k + 1 => if findT n T k < 0 then largK n T k else k
/-- byte j -/
def byteT (T : Nat → Bool) (j : Nat) : Nat := wordL ((List.range 8).map fun i => T (8 * j + i))
theorem byteT_lt (T : Nat → Bool) (j : Nat) : byteT T j < 256 := by
  have h := wordL_lt ((List.range 8).map fun i => T (8 * j + i))
  rw [List.length_map, List.length_range] at h
  exact h
theorem word_byte (T : Nat → Bool) (j : Nat) : word T (j / 8) / 2 ^ (j % 8 * 8) % 256 = byteT T j := by
  apply Nat.eq_of_testBit_eq
  intro i
  rw [show (256 : Nat) = 2 ^ 8 from rfl, Nat.testBit_mod_two_pow, Nat.testBit_div_two_pow, word_bit, byteT, wordL_bit]
  by_cases h : i < 8
  · rw [show 64 * (j / 8) + (i + j % 8 * 8) = 8 * j + i from by omega]
    simp [h]
    omega
  · simp [h]
def bytesT (T : Nat → Bool) (k : Nat) : List UInt8 := (List.range k).map fun j => UInt8.ofNat (byteT T j)
theorem bytesT_length (T : Nat → Bool) (k : Nat) : (bytesT T k).length = k := by simp [bytesT]
theorem bytesT_get (T : Nat → Bool) (k j : Nat) (h : j < (bytesT T k).length) : ((bytesT T k)[j]).toNat = byteT T j := by
  simp only [bytesT, List.getElem_map, List.getElem_range, UInt8.toNat_ofNat']
  exact Nat.mod_eq_of_lt (byteT_lt T j)
theorem info_u8 : (Try.prog.info? 5).map (fun i => (i.zero, i.size, i.bytes)) = some (some (.int .u8 0), 1, 1) := by kernel_rfl

set_option maxHeartbeats 400000 in
theorem Bytes_any (b g n : Nat) (T : Nat → Bool) (w : World) (h : BitsAt w b g n T) :
    Calls Try.prog 17 #[.pointer (some ⟨b, 0, none⟩)] w fun e w' => e = .returned (.string (bs (bytesT T ((n + 7) / 8)))) ∧ Mod (fun _ => False) w w' := by
  have c0 : w.cell? ⟨b, 0, none⟩ = some (.int .i64 n) := (cell_of h.hb 0).trans rfl
  have hn1 := h.n1
  have hn2 := h.n2
  have hmk := make_rowI (P := Try.prog) 79 5 (.int .u8 0) 1 ((n + 7) / 8) (((n : Int) + 7) / 8) (by omega) Try.underlying79 info_u8 rfl (by omega) (by unfold maxLen; omega)
  have H := Lib.hid h; clear h
  go_enter Try.func17, Try.ntmps17
  go_wp2
  clear hmk c0
  have H0 : Hid ((w.alloc (.cells (List.replicate ((n + 7) / 8) (.int .u8 0)).toArray 5)).heap[w.heap.size]? = some (.cells (List.replicate ((n + 7) / 8) (Value.int .u8 0)).toArray 5 (0, 0))) := new_at _ _
  have m0 : Mod (fun _ => False) w (w.alloc (.cells (List.replicate ((n + 7) / 8) (.int .u8 0)).toArray 5)) := (Mod.refl _ _).alloc _
  go_loopw [16] (fun i wr => ∃ (k : Nat) (arr : Array Value), k ≤ ((n + 7) / 8) ∧ i = .int .i64 k ∧ Hid (wr.heap[w.heap.size]? = some (.cells arr 5 (0, 0))) ∧ Hid (arr.size = ((n + 7) / 8) ∧ ∀ j, j < k → arr[j]? = some (.int .u8 (byteT T j : Int))) ∧ Mod (fun _ => False) w wr) (fun i _ => ((n + 7) / 8) - (intOf i).toNat)
  case atStart => exact ⟨0, _, Nat.zero_le _, rfl, H0, ⟨by simp, fun j hj => absurd hj (Nat.not_lt_zero _)⟩, m0⟩
  case round =>
    obtain ⟨k, arr, hk, rfl, HB, HA, mr⟩ := hrel
    by_cases hlt : k < ((n + 7) / 8)
    · have t1 : decide ((k : Int) < ((n : Int) + 7) / 8) = true := by simp; omega
      have hsz : k < arr.size := by rw [HA.out.1]; exact hlt
      have hc : wr.cell? ⟨w.heap.size, k, none⟩ = some arr[k] := (cell_of HB.out k).trans (Array.getElem?_eq_getElem hsz)
      have hf : wr.frozen? ⟨w.heap.size, k, none⟩ = false := free_of HB.out k
      generalize arr[k] = old at hc
      have hBw := H.out.mod mr (fun x => x) (fun x => x)
      have c1 : wr.cell? ⟨b, 1, none⟩ = some (.slice (some ⟨g, 0, none⟩) ((n + 63) / 64) ((n + 63) / 64)) := (cell_of hBw.hb 1).trans rfl
      have c2 : wr.cell? ⟨g, k / 8, none⟩ = some (.int .u64 (word T (k / 8) : Int)) := by
        have := hBw.cell (8 * k) (by omega)
        rwa [show 8 * k / 64 = k / 8 from by omega] at this
      have HW := Lib.hid hBw; clear hBw
      go_wp2
      go_roundw
      case rel =>
        refine ⟨k + 1, _, hlt, by go_num, heap_set HB.out k _, ⟨by rw [Array.size_setIfInBounds]; exact HA.out.1, fun j hj => ?_⟩, mr.setCell (Or.inr (Nat.le_refl _)) _⟩
        rw [Array.getElem?_setIfInBounds]
        by_cases e : k = j
        · subst e
          rw [if_pos rfl, if_pos hsz, ← word_byte]
          simp
        · rw [if_neg e]; exact HA.out.2 j (by omega)
      case measure => simp [intOf]; omega
    · have t1 : decide ((k : Int) < ((n : Int) + 7) / 8) = false := by simp; omega
      have hcv := conv_string (P := Try.prog) wr 79 9 5 w.heap.size 0 ((n + 7) / 8) (bytesT T ((n + 7) / 8)) ((n + 7) / 8) (bytesT_length T ((n + 7) / 8)).symm Try.underlying79 Try.underlying5 Try.underlying9
        (fun j hj => by rw [Nat.zero_add, cell_of HB.out, bytesT_get]; exact HA.out.2 j (by rw [bytesT_length] at hj; omega))
      go_wp2
      go_ret
      exact ⟨rfl, mr⟩
end Go.Proofs.Ytfmlgleeojblkaa
