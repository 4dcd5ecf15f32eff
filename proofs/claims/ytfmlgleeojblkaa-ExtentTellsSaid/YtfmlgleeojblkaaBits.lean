/- The bits, said by which are taken: what each function answers. -/
import Derived.Test.YtfmlgleeojblkaaBase
import Derived.Test.YtfmlgleeojblkaaPBits
namespace Go.Proofs.Ytfmlgleeojblkaa
open Go.RowKit

structure BitsAt (w : World) (b g n : Nat) (T : Nat → Bool) : Prop where
  hb : w.heap[b]? = some (.cells #[.int .i64 n, .slice (some ⟨g, 0, none⟩) ((n + 63) / 64) ((n + 63) / 64)] 74 (0, 0))
  hg : w.heap[g]? = some (.cells (wcells T ((n + 63) / 64)).toArray 80 (0, 0))
  n1 : 1 ≤ n
  n2 : n ≤ 16384
  ne : b ≠ g
  out : ∀ i, n ≤ i → T i = false
theorem BitsAt.mod {w w' : World} {b g n : Nat} {T : Nat → Bool} {S : Nat → Prop} (h : BitsAt w b g n T) (hm : Mod S w w') (h1 : ¬ S b) (h2 : ¬ S g) : BitsAt w' b g n T :=
  ⟨(hm.block b (lt_of h.hb) h1).trans h.hb, (hm.block g (lt_of h.hg) h2).trans h.hg, h.n1, h.n2, h.ne, h.out⟩
theorem BitsAt.cell {w : World} {b g n : Nat} {T : Nat → Bool} (h : BitsAt w b g n T) (i : Nat) (hi : i < n) : w.cell? ⟨g, i / 64, none⟩ = some (.int .u64 (word T (i / 64) : Int)) := by
  rw [cell_of h.hg, ← Array.getElem?_toList, List.toList_toArray, wcells_get _ _ _ (by omega)]

theorem tdiv_nat (a b : Nat) : Int.tdiv (a : Int) (b : Int) = ((a / b : Nat) : Int) := (Int.ofNat_tdiv a b).symm

theorem is_eq (T : Nat → Bool) (i : Nat) : (bits BinOp.and IntKind.u64 ((word T (i / 64) : Int) / 2 ^ (i % 64)) 1 == 1) = T i := by
  have h := word_div T i
  have h2 : ((word T (i / 64) : Int) / 2 ^ (i % 64)) = ((word T (i / 64) / 2 ^ (i % 64) : Nat) : Int) := by simp
  have hlt : word T (i / 64) / 2 ^ (i % 64) < 18446744073709551616 := Nat.lt_of_le_of_lt (Nat.div_le_self _ _) (word_lt _ _)
  rw [h2, show (1 : Int) = ((1 : Nat) : Int) from rfl, bits_and_u64_nat _ _ hlt (by decide), Nat.and_one_is_mod, h]
  cases T i <;> rfl

theorem is_any (b g n : Nat) (T : Nat → Bool) (i : Nat) (w : World) (h : BitsAt w b g n T) (hi : i < n) :
    Calls Try.prog 49 #[.pointer (some ⟨b, 0, none⟩), .int .i64 i] w fun e w' => e = .returned (.bool (T i)) ∧ w' = w := by
  have c1 : w.cell? ⟨b, 1, none⟩ = some (.slice (some ⟨g, 0, none⟩) ((n + 63) / 64) ((n + 63) / 64)) := (cell_of h.hb 1).trans rfl
  have c2 := h.cell i hi
  have hn1 := h.n1
  have hn2 := h.n2
  have H := Lib.hid h; clear h
  go_enter Try.func49, Try.ntmps49
  go_wp2_with fail
  go_ret
  refine ⟨ret_bool ?_, rfl⟩
  exact is_eq T i

/-- are all of some bits so? -/
def areT (T : Nat → Bool) (at_ k : Nat) (v : Bool) : Bool := (List.range k).all fun j => T (at_ + j) == v
theorem areT_true {T : Nat → Bool} {at_ k : Nat} {v : Bool} (h : ∀ j, j < k → T (at_ + j) = v) : areT T at_ k v = true := by
  simp only [areT, List.all_eq_true, List.mem_range, beq_iff_eq]
  exact h
theorem areT_false {T : Nat → Bool} {at_ k : Nat} {v : Bool} (j : Nat) (hj : j < k) (h : T (at_ + j) ≠ v) : areT T at_ k v = false := by
  rw [Bool.eq_false_iff]
  intro hh
  simp only [areT, List.all_eq_true, List.mem_range, beq_iff_eq] at hh
  exact h (hh j hj)
theorem areT_all {T : Nat → Bool} {at_ k : Nat} {v : Bool} (h : areT T at_ k v = true) (i : Nat) (h1 : at_ ≤ i) (h2 : i < at_ + k) : T i = v := by
  simp only [areT, List.all_eq_true, List.mem_range, beq_iff_eq] at h
  have := h (i - at_) (by omega)
  rwa [show at_ + (i - at_) = i from by omega] at this

set_option maxHeartbeats 1000000 in
theorem are_any (b g n : Nat) (T : Nat → Bool) (at_ k : Nat) (v : Bool) (w : World) (h : BitsAt w b g n T) (hi : at_ + k ≤ n) :
    Calls Try.prog 65 #[.pointer (some ⟨b, 0, none⟩), .int .i64 at_, .int .i64 k, .bool v] w fun e w' => e = .returned (.bool (areT T at_ k v)) ∧ w' = w := by
  have hn1 := h.n1
  have hn2 := h.n2
  have H := Lib.hid h; clear h
  go_enter Try.func65, Try.ntmps65
  go_wp2
  go_loop [9] (fun i => ∃ j : Nat, j ≤ k ∧ i = .int .i64 (at_ + j : Nat) ∧ ∀ x, x < j → T (at_ + x) = v) (fun i => at_ + k - (intOf i).toNat)
  case atStart => exact ⟨0, Nat.zero_le _, rfl, fun x hx => absurd hx (Nat.not_lt_zero _)⟩
  case round =>
    obtain ⟨j, hj, rfl, hall⟩ := hrel
    have HA := Lib.hid hall; clear hall
    by_cases hlt : j < k
    · have t1 : decide (((at_ + j : Nat) : Int) < (at_ : Int) + k) = true := by simp; omega
      by_cases hv : T (at_ + j) = v
      · have t2 : (T (at_ + j) == v) = true := by simp [hv]
        go_wp2_with fail
        refine (is_any b g n T (at_ + j) _ H.out (by omega)).mono ?_
        rintro e w1 ⟨rfl, rfl⟩
        go_wp2
        go_round
        case rel => exact ⟨j + 1, hlt, by go_num, fun x hx => by rcases Nat.lt_succ_iff_lt_or_eq.1 hx with hx | rfl; exact HA.out x hx; exact hv⟩
        case measure => simp [intOf]; omega
      · have t2 : (T (at_ + j) == v) = false := by simp [hv]
        go_wp2_with fail
        refine (is_any b g n T (at_ + j) _ H.out (by omega)).mono ?_
        rintro e w1 ⟨rfl, rfl⟩
        go_wp2
        go_ret
        exact ⟨ret_bool (areT_false j hlt hv).symm, rfl⟩
    · have t1 : decide (((at_ + j : Nat) : Int) < (at_ : Int) + k) = false := by simp; omega
      go_wp2
      go_ret
      exact ⟨ret_bool (areT_true fun x hx => HA.out x (by omega)).symm, rfl⟩

theorem add64 (a b : Nat) (h : a + b < 18446744073709551616) : IntKind.u64.wrap ((a : Int) + b) = ((a + b : Nat) : Int) := by
  rw [IntKind.wrap_u64]; omega
theorem ones_e1 (x m : Nat) (k : Nat) (hx : x < 18446744073709551616) (hm : m < 18446744073709551616) (h : (x / k &&& m) + (x &&& m) < 18446744073709551616) :
    IntKind.u64.wrap (bits .and .u64 ((x : Int) / (k : Int)) (m : Int) + bits .and .u64 (x : Int) (m : Int)) = (((x / k &&& m) + (x &&& m) : Nat) : Int) := by
  rw [show ((x : Int) / (k : Int)) = ((x / k : Nat) : Int) from by simp, bits_and_u64_nat _ _ (Nat.lt_of_le_of_lt (Nat.div_le_self _ _) hx) hm, bits_and_u64_nat _ _ hx hm, add64 _ _ h]
theorem ones_e3 (x m : Nat) (k : Nat) (hm : m < 18446744073709551616) (h : x / k + x < 18446744073709551616) :
    bits .and .u64 (IntKind.u64.wrap ((x : Int) / (k : Int) + x)) (m : Int) = ((x / k + x &&& m : Nat) : Int) := by
  rw [show ((x : Int) / (k : Int)) = ((x / k : Nat) : Int) from by simp, add64 _ _ h, bits_and_u64_nat _ _ h hm]
theorem ones_e4 (x : Nat) (k : Nat) (h : x + x / k < 18446744073709551616) :
    IntKind.u64.wrap ((x : Int) + (x : Int) / (k : Int)) = ((x + x / k : Nat) : Int) := by
  rw [show ((x : Int) / (k : Int)) = ((x / k : Nat) : Int) from by simp, add64 _ _ h]

set_option maxHeartbeats 1000000 in
theorem ones_any (T : Nat → Bool) (j : Nat) (w : World) :
    Calls Try.prog 39 #[.int .u64 (word T j)] w fun e w' => e = .returned (.int .i64 (popc ((List.range 64).map fun i => T (64 * j + i)))) ∧ w' = w := by
  obtain ⟨g1, g2, g3, g4, g5, g6, g7, g8⟩ := ones ((List.range 64).map fun i => T (64 * j + i)) (by simp)
  have g0 := word_lt T j
  change wordL _ < _ at g0
  unfold word
  generalize wordL ((List.range 64).map fun i => T (64 * j + i)) = x at *
  generalize popc ((List.range 64).map fun i => T (64 * j + i)) = y at *
  have e1 := ones_e1 x 6148914691236517205 2 g0 (by decide) g1
  have e2 := ones_e1 (ones1 x) 3689348814741910323 4 g1 (by decide) g2
  have e3 := ones_e3 (ones2 (ones1 x)) 1085102592571150095 16 (by decide) g3
  have e4 := ones_e4 (ones3 (ones2 (ones1 x))) 256 g4
  have e5 := ones_e4 (ones4 (ones3 (ones2 (ones1 x)))) 65536 g5
  have e6 := ones_e4 (ones5 (ones4 (ones3 (ones2 (ones1 x))))) 4294967296 (Nat.lt_trans g6 (by decide))
  have e7 : bits .and .i64 (wrap64 ((ones6 (ones5 (ones4 (ones3 (ones2 (ones1 x))))) : Nat) : Int)) 127 = (y : Int) := by
    rw [← g7]
    generalize ones6 (ones5 (ones4 (ones3 (ones2 (ones1 x))))) = z at *
    rw [show wrap64 (z : Int) = (z : Int) from by unfold wrap64; omega]
    exact bits_mask .i64 63 (by decide) (fun n _ _ => by rw [IntKind.wrap_i64]; omega) 7 (by decide) (z : Int) (by omega) (by omega)
  have E := Lib.hid (And.intro e1 (And.intro e2 (And.intro e3 (And.intro e4 (And.intro e5 (And.intro e6 e7))))))
  clear e1 e2 e3 e4 e5 e6 e7 g0 g1 g2 g3 g4 g5 g6 g7 g8
  go_enter Try.func39, Try.ntmps39
  go_wp2
  go_ret
  obtain ⟨e1, e2, e3, e4, e5, e6, e7⟩ := E.out
  refine ⟨ret_int ?_, rfl⟩
  refine Eq.trans ?_ e7
  refine congrArg (bits .and .i64 · 127) (congrArg wrap64 ?_)
  change _ = ((ones5 (ones4 (ones3 (ones2 (ones1 x)))) + (ones5 (ones4 (ones3 (ones2 (ones1 x))))) / 4294967296 : Nat) : Int)
  have q1 : IntKind.u64.wrap (bits .and .u64 ((x : Int) / 2) 6148914691236517205 + bits .and .u64 (x : Int) 6148914691236517205) = ((ones1 x : Nat) : Int) := e1
  rw [q1]
  have q2 : IntKind.u64.wrap (bits .and .u64 ((ones1 x : Int) / 4) 3689348814741910323 + bits .and .u64 (ones1 x : Int) 3689348814741910323) = ((ones2 (ones1 x) : Nat) : Int) := e2
  rw [q2]
  have q3 : bits .and .u64 (IntKind.u64.wrap ((ones2 (ones1 x) : Int) / 16 + (ones2 (ones1 x) : Int))) 1085102592571150095 = ((ones3 (ones2 (ones1 x)) : Nat) : Int) := e3
  rw [q3]
  have q4 : IntKind.u64.wrap ((ones3 (ones2 (ones1 x)) : Int) + (ones3 (ones2 (ones1 x)) : Int) / 256) = ((ones4 (ones3 (ones2 (ones1 x))) : Nat) : Int) := e4
  rw [q4]
  have q5 : IntKind.u64.wrap ((ones4 (ones3 (ones2 (ones1 x))) : Int) + (ones4 (ones3 (ones2 (ones1 x))) : Int) / 65536) = ((ones5 (ones4 (ones3 (ones2 (ones1 x)))) : Nat) : Int) := e5
  rw [q5]
  exact e6
end Go.Proofs.Ytfmlgleeojblkaa
