/- Words of 64 bits, said by the bits: pure. And: how many of a word's bits are set, by lanes. -/
import Derived.Laws.Bits64b
import Derived.WalkKit
namespace Go.Proofs.Ytfmlgleeojblkaa

def wordL : List Bool → Nat
  | [] => 0
  | b :: r => b.toNat + 2 * wordL r
theorem wordL_lt : ∀ l : List Bool, wordL l < 2 ^ l.length
  | [] => by simp [wordL]
  | b :: r => by
    have := wordL_lt r
    have hb : b.toNat ≤ 1 := by cases b <;> simp
    simp only [wordL, List.length_cons, Nat.pow_succ]
    omega
theorem wordL_bit : ∀ (l : List Bool) (i : Nat), (wordL l).testBit i = l.getD i false
  | [], i => by simp [wordL]
  | b :: r, 0 => by
    simp only [wordL, List.getD_cons_zero, Nat.testBit_zero]
    cases b
    · simp
    · simp
  | b :: r, i + 1 => by
    have h : (wordL (b :: r)) / 2 = wordL r := by
      have hb : b.toNat ≤ 1 := by cases b <;> simp
      simp only [wordL]; omega
    rw [Nat.testBit_succ, h, wordL_bit r i]; rfl

/-- word j of the bits T -/
def word (T : Nat → Bool) (j : Nat) : Nat := wordL ((List.range 64).map fun i => T (64 * j + i))
theorem word_lt (T : Nat → Bool) (j : Nat) : word T j < 18446744073709551616 := by
  have := wordL_lt ((List.range 64).map fun i => T (64 * j + i))
  simpa [word] using this
theorem word_bit (T : Nat → Bool) (j i : Nat) : (word T j).testBit i = (decide (i < 64) && T (64 * j + i)) := by
  unfold word
  rw [wordL_bit, List.getD_eq_getElem?_getD, List.getElem?_map]
  by_cases h : i < 64
  · rw [List.getElem?_range h]; simp [h]
  · rw [List.getElem?_eq_none (by simpa using h)]; simp [h]
def put (T : Nat → Bool) (i : Nat) (b : Bool) : Nat → Bool := fun k => if k = i then b else T k
theorem word_put_ne (T : Nat → Bool) (i : Nat) (b : Bool) (j : Nat) (h : j ≠ i / 64) : word (put T i b) j = word T j := by
  unfold word
  congr 1
  refine List.map_congr_left fun k hk => ?_
  have := List.mem_range.1 hk
  unfold put
  rw [if_neg (by omega)]
theorem word_put_true (T : Nat → Bool) (i : Nat) : word (put T i true) (i / 64) = word T (i / 64) ||| 2 ^ (i % 64) := by
  refine Nat.eq_of_testBit_eq fun k => ?_
  rw [Nat.testBit_or, word_bit, word_bit, Nat.testBit_two_pow]
  unfold put
  by_cases hk : k < 64
  · by_cases e : i % 64 = k
    · rw [if_pos (by omega)]; simp [hk, e]
    · rw [if_neg (by omega)]; simp [hk, e]
  · have : ¬ i % 64 = k := by omega
    simp [hk, this]
theorem word_put_false (T : Nat → Bool) (i : Nat) : word (put T i false) (i / 64) = word T (i / 64) &&& (18446744073709551615 ^^^ 2 ^ (i % 64)) := by
  refine Nat.eq_of_testBit_eq fun k => ?_
  rw [Nat.testBit_and, Nat.testBit_xor, word_bit, word_bit, Nat.testBit_two_pow, show 18446744073709551615 = 2 ^ 64 - 1 from rfl, Nat.testBit_two_pow_sub_one]
  unfold put
  by_cases hk : k < 64
  · by_cases e : i % 64 = k
    · rw [if_pos (by omega)]; simp [hk, e]
    · rw [if_neg (by omega)]; simp [hk, e]
  · simp [hk]
theorem put_self (T : Nat → Bool) (i : Nat) (b : Bool) (h : T i = b) : put T i b = T := by
  funext k
  unfold put
  split
  · rename_i e; rw [e, h]
  · rfl
theorem word_div (T : Nat → Bool) (i : Nat) : word T (i / 64) / 2 ^ (i % 64) % 2 = (T i).toNat := by
  have h := word_bit T (i / 64) (i % 64)
  rw [Nat.testBit_eq_decide_div_mod_eq, show 64 * (i / 64) + i % 64 = i from by omega, show decide (i % 64 < 64) = true from by simp; omega] at h
  cases hT : T i
  · rw [hT] at h; simp at h; simpa using h
  · rw [hT] at h; simp at h; simpa using h
/-- the words as cells -/
def wcells (T : Nat → Bool) (k : Nat) : List Value := (List.range k).map fun j => .int .u64 (word T j : Int)
theorem wcells_get (T : Nat → Bool) (k j : Nat) (h : j < k) : (wcells T k)[j]? = some (.int .u64 (word T j : Int)) := by
  rw [wcells, List.getElem?_map, List.getElem?_range h]; rfl
theorem wcells_length (T : Nat → Bool) (k : Nat) : (wcells T k).length = k := by simp [wcells]
theorem wcells_put (T : Nat → Bool) (k i : Nat) (b : Bool) : (wcells T k).toArray.setIfInBounds (i / 64) (.int .u64 (word (put T i b) (i / 64) : Int)) = (wcells (put T i b) k).toArray := by
  rw [List.setIfInBounds_toArray]
  congr 1
  refine List.ext_getElem? fun j => ?_
  rw [List.getElem?_set]
  by_cases hj : j < k
  · rw [wcells_get _ _ _ hj, wcells_length]
    by_cases e : i / 64 = j
    · subst e; rw [if_pos rfl, if_pos hj, wcells_get _ _ _ hj]
    · rw [if_neg e, wcells_get _ _ _ hj, word_put_ne _ _ _ _ (by omega)]
  · rw [List.getElem?_eq_none (by rw [wcells_length]; omega), List.getElem?_eq_none (by rw [wcells_length]; omega), wcells_length]
    split
    · rw [if_neg (by omega)]
    · rfl
theorem word_none (j : Nat) : word (fun _ => false) j = 0 := by
  refine Nat.eq_of_testBit_eq fun k => ?_
  rw [word_bit]; simp
theorem wcells_none (k : Nat) : List.replicate k (Value.int .u64 0) = wcells (fun _ => false) k := by
  refine List.ext_getElem (by rw [wcells_length]; simp) fun i h1 h2 => ?_
  simp [wcells, word_none]

-- lanes
def V (p : Nat) : List Nat → Nat
  | [] => 0
  | d :: r => d + 2 ^ p * V p r
def halve : List Nat → List Nat
  | a :: b :: r => (a + b) :: halve r
  | _ => []
def M (p : Nat) : Nat → Nat
  | 0 => 0
  | m + 1 => (2 ^ p - 1) + 2 ^ (2 * p) * M p m
theorem halve_sum : ∀ (m : Nat) (l : List Nat), l.length = 2 * m → (halve l).sum = l.sum
  | 0, l, h => by obtain rfl := List.eq_nil_of_length_eq_zero h; rfl
  | m + 1, [], h => by simp at h
  | m + 1, [_], h => by simp at h; omega
  | m + 1, a :: b :: r, h => by
    simp only [halve, List.sum_cons, halve_sum m r (by simp at h; omega)]
    omega
theorem halve_length : ∀ (m : Nat) (l : List Nat), l.length = 2 * m → (halve l).length = m
  | 0, l, h => by obtain rfl := List.eq_nil_of_length_eq_zero h; rfl
  | m + 1, [], h => by simp at h
  | m + 1, [_], h => by simp at h; omega
  | m + 1, a :: b :: r, h => by simp only [halve, List.length_cons, halve_length m r (by simp at h; omega)]
theorem halve_le (c : Nat) : ∀ (l : List Nat), (∀ d ∈ l, d ≤ c) → ∀ d ∈ halve l, d ≤ 2 * c
  | [], _, _, h => by simp [halve] at h
  | [_], _, _, h => by simp [halve] at h
  | a :: b :: r, hl, d, h => by
    simp only [halve, List.mem_cons] at h
    rcases h with rfl | h
    · have := hl a (by simp); have := hl b (by simp); omega
    · exact halve_le c r (fun d hd => hl d (by simp [hd])) d h
theorem lane (p b y m : Nat) (hb : b < 2 ^ p) : (b + 2 ^ p * y) &&& ((2 ^ p - 1) + 2 ^ (2 * p) * m) = b + 2 ^ (2 * p) * ((y / 2 ^ p) &&& m) := by
  have hm : 2 ^ p - 1 < 2 ^ (2 * p) := by
    have : 2 ^ p ≤ 2 ^ (2 * p) := Nat.pow_le_pow_right (by decide) (by omega)
    have := Nat.two_pow_pos p
    omega
  have hb2 : b < 2 ^ (2 * p) := Nat.lt_of_lt_of_le hb (Nat.pow_le_pow_right (by decide) (by omega))
  refine Nat.eq_of_testBit_eq fun k => ?_
  rw [Nat.testBit_and, Nat.add_comm b, Nat.add_comm (2 ^ p - 1), Nat.add_comm b, Nat.testBit_two_pow_mul_add _ hb, Nat.testBit_two_pow_mul_add _ hm, Nat.testBit_two_pow_mul_add _ hb2, Nat.testBit_two_pow_sub_one]
  by_cases h1 : k < p
  · simp [h1, show k < 2 * p from by omega]
  · by_cases h2 : k < 2 * p
    · simp only [h1, h2, if_false, if_true, decide_false, Bool.and_false]
      exact (Nat.testBit_lt_two_pow (Nat.lt_of_lt_of_le hb (Nat.pow_le_pow_right (by decide) (by omega)))).symm
    · simp only [h1, h2, if_false]
      rw [Nat.testBit_and, Nat.testBit_div_two_pow, show k - 2 * p + p = k - p from by omega]
theorem V_cons2 (p a b : Nat) (r : List Nat) : V p (a :: b :: r) = a + 2 ^ p * (b + 2 ^ p * V p r) := rfl
theorem dv (p a y : Nat) (h : a < 2 ^ p) : (a + 2 ^ p * y) / 2 ^ p = y := by
  rw [Nat.add_mul_div_left _ _ (Nat.two_pow_pos p), Nat.div_eq_of_lt h, Nat.zero_add]
theorem lanes (p : Nat) : ∀ (m : Nat) (l : List Nat), l.length = 2 * m → (∀ d ∈ l, d < 2 ^ p) → (V p l / 2 ^ p &&& M p m) + (V p l &&& M p m) = V (2 * p) (halve l)
  | 0, l, h, _ => by obtain rfl := List.eq_nil_of_length_eq_zero h; simp [V, M, halve]
  | m + 1, [], h, _ => by simp at h
  | m + 1, [_], h, _ => by simp at h; omega
  | m + 1, a :: b :: r, h, hl => by
    have ha := hl a (by simp)
    have hb := hl b (by simp)
    have ih := lanes p m r (by simp at h; omega) (fun d hd => hl d (by simp [hd]))
    rw [V_cons2, dv p a _ ha]
    simp only [M, halve, V]
    rw [lane p b _ _ hb, lane p a _ _ ha, dv p b _ hb, ← ih]
    rw [Nat.mul_add]
    omega
theorem lanes4 : ∀ (m : Nat) (l : List Nat), l.length = 2 * m → (∀ d ∈ l, d ≤ 4) → ((V 4 l / 2 ^ 4 + V 4 l) &&& M 4 m) = V 8 (halve l)
  | 0, l, h, _ => by obtain rfl := List.eq_nil_of_length_eq_zero h; simp [V, M, halve]
  | m + 1, [], h, _ => by simp at h
  | m + 1, [_], h, _ => by simp at h; omega
  | m + 1, a :: b :: r, h, hl => by
    have ha := hl a (by simp)
    have hb := hl b (by simp)
    have ih := lanes4 m r (by simp at h; omega) (fun d hd => hl d (by simp [hd]))
    have hr : V 4 r % 16 ≤ 4 := by
      cases r with
      | nil => simp [V]
      | cons c s =>
        have := hl c (by simp)
        simp only [V]
        omega
    have h1 : V 4 (a :: b :: r) / 2 ^ 4 + V 4 (a :: b :: r) = (a + b) + 2 ^ 4 * (b + 17 * V 4 r) := by
      rw [V_cons2]; omega
    rw [h1]
    simp only [M, halve, V]
    rw [lane 4 (a + b) _ _ (by omega), ← ih]
    congr 3
    omega
/-- the bits' sum -/
def popc (l : List Bool) : Nat := (l.map Bool.toNat).sum
theorem V_word : ∀ l : List Bool, V 1 (l.map Bool.toNat) = wordL l
  | [] => rfl
  | b :: r => by simp only [List.map_cons, V, wordL, V_word r]
def addL : List Nat → List Nat → List Nat
  | a :: l, b :: m => (a + b) :: addL l m
  | [], m => m
  | l, [] => l
theorem V_add (p : Nat) : ∀ l m : List Nat, V p l + V p m = V p (addL l m)
  | [], m => by simp [addL, V]
  | a :: l, [] => by simp [addL, V]
  | a :: l, b :: m => by
    simp only [V, addL, ← V_add p l m, Nat.mul_add]
    omega
theorem V_drop (p : Nat) : ∀ (k : Nat) (l : List Nat), (∀ d ∈ l, d < 2 ^ p) → V p l / 2 ^ (p * k) = V p (l.drop k)
  | 0, l, _ => by simp
  | k + 1, [], _ => by simp [V]
  | k + 1, d :: r, h => by
    rw [Nat.mul_succ, Nat.add_comm (p * k), Nat.pow_add, ← Nat.div_div_eq_div_mul]
    simp only [V, List.drop_succ_cons]
    rw [dv p d _ (h d (by simp)), V_drop p k r (fun d hd => h d (by simp [hd]))]
theorem len8 {l : List Nat} (h : l.length = 8) : ∃ a b c d e f g i, l = [a, b, c, d, e, f, g, i] := by
  match l, h with
  | [a, b, c, d, e, f, g, i], _ => exact ⟨a, b, c, d, e, f, g, i, rfl⟩
def ones1 (x : Nat) : Nat := (x / 2 &&& 6148914691236517205) + (x &&& 6148914691236517205)
def ones2 (x : Nat) : Nat := (x / 4 &&& 3689348814741910323) + (x &&& 3689348814741910323)
def ones3 (x : Nat) : Nat := (x / 16 + x) &&& 1085102592571150095
def ones4 (x : Nat) : Nat := x + x / 256
def ones5 (x : Nat) : Nat := x + x / 65536
def ones6 (x : Nat) : Nat := x + x / 4294967296
theorem ones (l : List Bool) (h : l.length = 64) :
    ones1 (wordL l) < 18446744073709551616 ∧ ones2 (ones1 (wordL l)) < 18446744073709551616 ∧ (ones2 (ones1 (wordL l))) / 16 + ones2 (ones1 (wordL l)) < 18446744073709551616 ∧
    ones4 (ones3 (ones2 (ones1 (wordL l)))) < 18446744073709551616 ∧ ones5 (ones4 (ones3 (ones2 (ones1 (wordL l))))) < 18446744073709551616 ∧
    ones6 (ones5 (ones4 (ones3 (ones2 (ones1 (wordL l)))))) < 9223372036854775808 ∧ ones6 (ones5 (ones4 (ones3 (ones2 (ones1 (wordL l)))))) % 128 = popc l ∧ popc l ≤ 64 := by
  have hm1 : M 1 32 = 6148914691236517205 := by decide
  have hm2 : M 2 16 = 3689348814741910323 := by decide
  have hm4 : M 4 8 = 1085102592571150095 := by decide
  obtain ⟨d0, hd0⟩ : ∃ d0, l.map Bool.toNat = d0 := ⟨_, rfl⟩
  have b0 : ∀ d ∈ d0, d ≤ 1 := by
    subst hd0; intro d hd
    obtain ⟨b, _, rfl⟩ := List.mem_map.1 hd
    cases b <;> simp
  have l0 : d0.length = 2 * 32 := by subst hd0; simp [h]
  have e1 : ones1 (wordL l) = V 2 (halve d0) := by
    have := lanes 1 32 d0 l0 (fun d hd => by have := b0 d hd; omega)
    rw [← hd0, V_word, hm1, hd0] at this
    exact this
  have l1 := halve_length 32 d0 l0
  have b1 := halve_le 1 d0 b0
  have s1 := halve_sum 32 d0 l0
  generalize halve d0 = d1 at *
  have e2 : ones2 (ones1 (wordL l)) = V 4 (halve d1) := by
    rw [e1]
    have := lanes 2 16 d1 l1 (fun d hd => by have := b1 d hd; omega)
    rw [hm2] at this
    exact this
  have l2 := halve_length 16 d1 l1
  have b2 := halve_le 2 d1 b1
  have s2 := halve_sum 16 d1 l1
  have V2 : V 2 d1 < 18446744073709551616 := by
    have : ∀ (r : List Nat), (∀ d ∈ r, d ≤ 2) → V 2 r < 4 ^ r.length := by
      intro r
      induction r with
      | nil => simp [V]
      | cons c s ih =>
        intro hh
        have := hh c (by simp)
        have := ih (fun d hd => hh d (by simp [hd]))
        simp only [V, List.length_cons, Nat.pow_succ]
        omega
    have := this d1 b1
    rw [l1] at this
    simpa using this
  generalize halve d1 = d2 at *
  have e3 : ones3 (V 4 d2) = V 8 (halve d2) := by
    have := lanes4 8 d2 l2 b2
    rw [hm4] at this
    exact this
  have l3 := halve_length 8 d2 l2
  have b3 := halve_le 4 d2 b2
  have s3 := halve_sum 8 d2 l2
  have V4 : V 4 d2 / 16 + V 4 d2 < 18446744073709551616 ∧ V 4 d2 < 18446744073709551616 := by
    have : ∀ (r : List Nat), (∀ d ∈ r, d ≤ 4) → 3 * V 4 r < 16 ^ r.length := by
      intro r
      induction r with
      | nil => simp [V]
      | cons c s ih =>
        intro hh
        have := hh c (by simp)
        have := ih (fun d hd => hh d (by simp [hd]))
        simp only [V, List.length_cons, Nat.pow_succ]
        omega
    have := this d2 b2
    rw [l2] at this
    omega
  have hp : popc l = (halve d2).sum := by rw [s3, s2, s1, ← hd0]; rfl
  rw [hp, e2, e1, e3]
  generalize halve d2 = d3 at *
  obtain ⟨a, b, c, d, e, f, g, i, rfl⟩ := len8 l3
  have ga := b3 a (by simp)
  have gb := b3 b (by simp)
  have gc := b3 c (by simp)
  have gd := b3 d (by simp)
  have ge := b3 e (by simp)
  have gf := b3 f (by simp)
  have gg := b3 g (by simp)
  have gi := b3 i (by simp)
  refine ⟨V2, V4.2, V4.1, ?_⟩
  clear e1 e2 e3 s1 s2 s3 hp V2 V4 hd0 b0 b1 b2 b3 hm1 hm2 hm4
  have e4 : ones4 (V 8 [a, b, c, d, e, f, g, i]) = V 8 [a + b, b + c, c + d, d + e, e + f, f + g, g + i, i] := by
    have h1 : V 8 [a, b, c, d, e, f, g, i] / 2 ^ (8 * 1) = V 8 [b, c, d, e, f, g, i] := V_drop 8 1 _ (by simp; omega)
    have h2 := V_add 8 [a, b, c, d, e, f, g, i] [b, c, d, e, f, g, i]
    unfold ones4
    rw [show 256 = 2 ^ (8 * 1) from rfl, h1, h2]; rfl
  have e5 : ones5 (V 8 [a + b, b + c, c + d, d + e, e + f, f + g, g + i, i]) = V 8 [a + b + (c + d), b + c + (d + e), c + d + (e + f), d + e + (f + g), e + f + (g + i), f + g + i, g + i, i] := by
    have h1 : V 8 [a + b, b + c, c + d, d + e, e + f, f + g, g + i, i] / 2 ^ (8 * 2) = V 8 [c + d, d + e, e + f, f + g, g + i, i] := V_drop 8 2 _ (by simp; omega)
    have h2 := V_add 8 [a + b, b + c, c + d, d + e, e + f, f + g, g + i, i] [c + d, d + e, e + f, f + g, g + i, i]
    unfold ones5
    rw [show 65536 = 2 ^ (8 * 2) from rfl, h1, h2]; rfl
  have e6 : ones6 (V 8 [a + b + (c + d), b + c + (d + e), c + d + (e + f), d + e + (f + g), e + f + (g + i), f + g + i, g + i, i]) =
      V 8 [a + b + (c + d) + (e + f + (g + i)), b + c + (d + e) + (f + g + i), c + d + (e + f) + (g + i), d + e + (f + g) + i, e + f + (g + i), f + g + i, g + i, i] := by
    have h1 : V 8 [a + b + (c + d), b + c + (d + e), c + d + (e + f), d + e + (f + g), e + f + (g + i), f + g + i, g + i, i] / 2 ^ (8 * 4) = V 8 [e + f + (g + i), f + g + i, g + i, i] := V_drop 8 4 _ (by simp; omega)
    have h2 := V_add 8 [a + b + (c + d), b + c + (d + e), c + d + (e + f), d + e + (f + g), e + f + (g + i), f + g + i, g + i, i] [e + f + (g + i), f + g + i, g + i, i]
    unfold ones6
    rw [show 4294967296 = 2 ^ (8 * 4) from rfl, h1, h2]; rfl
  rw [e4, e5, e6]
  clear e4 e5 e6
  simp only [V, List.sum_cons, List.sum_nil]
  omega
end Go.Proofs.Ytfmlgleeojblkaa
