/- The document's bits: Read, Bytes, Free, Find, Largest. -/
import Derived.Test.YtfmlgleeojblkaaBitsMore
import Derived.Test.YtfmlgleeojblkaaRegionLast
import Derived.Test.YtfmlgleeojblkaaOwn
namespace Go.Proofs.Ytfmlgleeojblkaa
open Go.RowKit

structure RefAt (w : World) (r g n cap : Nat) (T : Nat → Bool) : Prop where
  hb : w.heap[r]? = some (.cells #[.slice (some ⟨g, 0, none⟩) n cap] 46 (0, 0))
  hg : g < w.heap.size
  hc : ∀ j, j < n → w.cell? ⟨g, j, none⟩ = some (.bool (T j))
  n1 : 1 ≤ n
  n2 : n ≤ 16384
theorem RefAt.mod {w w' : World} {r g n cap : Nat} {T : Nat → Bool} {S : Nat → Prop} (h : RefAt w r g n cap T) (hm : Mod S w w') (h1 : ¬ S r) (h2 : ¬ S g) : RefAt w' r g n cap T :=
  ⟨(hm.block r (lt_of h.hb) h1).trans h.hb, Nat.lt_of_lt_of_le h.hg hm.size, fun j hj => (World.cell?_of_block (a := ⟨g, j, none⟩) (hm.block g h.hg h2)).trans (h.hc j hj), h.n1, h.n2⟩

set_option maxHeartbeats 1000000 in
theorem rare_any (r g n cap : Nat) (T : Nat → Bool) (at_ k : Nat) (v : Bool) (w : World) (h : RefAt w r g n cap T) (hi : at_ + k ≤ n) :
    Calls Try.prog 55 #[.pointer (some ⟨r, 0, none⟩), .int .i64 at_, .int .i64 k, .bool v] w fun e w' => e = .returned (.bool (areT T at_ k v)) ∧ w' = w := by
  have c0 : w.cell? ⟨r, 0, none⟩ = some (.slice (some ⟨g, 0, none⟩) n cap) := (cell_of h.hb 0).trans rfl
  have hn2 := h.n2
  have H := Lib.hid h; clear h
  go_enter Try.func55, Try.ntmps55
  go_wp2
  go_loop [9] (fun i => ∃ j : Nat, j ≤ k ∧ i = .int .i64 (at_ + j : Nat) ∧ ∀ x, x < j → T (at_ + x) = v) (fun i => at_ + k - (intOf i).toNat)
  case atStart => exact ⟨0, Nat.zero_le _, rfl, fun x hx => absurd hx (Nat.not_lt_zero _)⟩
  case round =>
    obtain ⟨j, hj, rfl, hall⟩ := hrel
    have HA := Lib.hid hall; clear hall
    by_cases hlt : j < k
    · have t1 : decide (((at_ + j : Nat) : Int) < (at_ : Int) + k) = true := by simp; omega
      have c1 := H.out.hc (at_ + j) (by omega)
      by_cases hv : T (at_ + j) = v
      · have t2 : (T (at_ + j) == v) = true := by simp [hv]
        go_wp2
        go_round
        case rel => exact ⟨j + 1, hlt, by go_num, fun x hx => by rcases Nat.lt_succ_iff_lt_or_eq.1 hx with hx | rfl; exact HA.out x hx; exact hv⟩
        case measure => simp [intOf]; omega
      · have t2 : (T (at_ + j) == v) = false := by simp [hv]
        go_wp2
        go_ret
        exact ⟨ret_bool (areT_false j hlt hv).symm, rfl⟩
    · have t1 : decide (((at_ + j : Nat) : Int) < (at_ : Int) + k) = false := by simp; omega
      go_wp2
      go_ret
      exact ⟨ret_bool (areT_true fun x hx => HA.out x (by omega)).symm, rfl⟩

set_option maxHeartbeats 1000000 in
theorem rfind_any (r g n cap : Nat) (T : Nat → Bool) (c : Nat) (hc : c ≤ 4) (w : World) (h : RefAt w r g n cap T) :
    Calls Try.prog 57 #[.pointer (some ⟨r, 0, none⟩), .int .i64 c] w fun e w' => e = .returned (.int .i64 (findT n T c)) ∧ w' = w := by
  have c0 : w.cell? ⟨r, 0, none⟩ = some (.slice (some ⟨g, 0, none⟩) n cap) := (cell_of h.hb 0).trans rfl
  have hn2 := h.n2
  have e1 := (find_arith n c 0 hc hn2 (Nat.zero_le _)).1
  have H := Lib.hid h; clear h
  go_enter Try.func57, Try.ntmps57
  go_wp2
  rw [e1]
  go_loop [6] (fun i => ∃ k : Nat, k ≤ n / 2 ^ c ∧ i = .int .i64 (k * 2 ^ c : Nat) ∧ ∀ y ∈ (spots n (2 ^ c)).take k, isFree T n (2 ^ c) y = false) (fun i => n + 16 - (intOf i).toNat)
  case atStart => exact ⟨0, Nat.zero_le _, by simp, by simp⟩
  case round =>
    obtain ⟨k, hk, rfl, hall⟩ := hrel
    obtain ⟨_, e2, e3⟩ := find_arith n c k hc hn2 hk
    have HA := Lib.hid hall; clear hall
    by_cases hlt : k < n / 2 ^ c
    · have t1 : decide ((k : Int) * 2 ^ c + 2 ^ c ≤ n) = true := by rw [e3]; simpa using hlt
      clear e3
      have hlt' : k < (spots n (2 ^ c)).length := by rw [spots_length]; exact hlt
      have hsp := (spots n (2 ^ c))[k].2
      rw [spots_get] at hsp
      have hA := rare_any r g n cap T (k * 2 ^ c) (2 ^ c) false w H.out hsp
      simp only [Int.natCast_mul, Int.natCast_pow, Int.cast_ofNat_Int] at hA
      have hfr : isFree T n (2 ^ c) (spots n (2 ^ c))[k] = areT T (k * 2 ^ c) (2 ^ c) false := by unfold isFree; rw [spots_get]
      have hst := spots_take n (2 ^ c) k hlt'
      have HS := Lib.hid (And.intro hfr (And.intro hst hsp)); clear hfr hst hsp
      cases hv : areT T (k * 2 ^ c) (2 ^ c) false with
      | true =>
        rw [hv] at hA
        go_wp2_with fail
        refine hA.mono ?_
        rintro e w1 ⟨rfl, rfl⟩
        go_wp2
        go_ret
        refine ⟨ret_int ?_, rfl⟩
        rw [findT_some n T c ((spots n (2 ^ c)).take k) (spots n (2 ^ c))[k] (by rw [← HS.out.2.1]; exact List.take_prefix _ _) HA.out (by rw [HS.out.1]; exact hv), spots_get]
        simp
      | false =>
        rw [hv] at hA
        go_wp2_with fail
        refine hA.mono ?_
        rintro e w1 ⟨rfl, rfl⟩
        go_wp2
        go_round
        case rel => exact ⟨k + 1, hlt, by rw [Nat.add_mul]; simp; exact e2, fun y hy => by
          rw [HS.out.2.1] at hy
          rcases List.mem_append.1 hy with hy | hy
          · exact HA.out y hy
          · rw [List.mem_singleton.1 hy, HS.out.1]; exact hv⟩
        case measure => rw [e2]; exact find_measure n c k hlt
    · have t1 : decide ((k : Int) * 2 ^ c + 2 ^ c ≤ n) = false := by rw [e3]; simpa using hlt
      clear e3
      go_wp2
      go_ret
      refine ⟨ret_int ?_, rfl⟩
      have h2 := HA.out
      rw [List.take_of_length_le (by rw [spots_length]; omega)] at h2
      exact (findT_none n T c h2).symm

theorem info_bool : (Try.prog.info? 4).map (fun i => (i.zero, i.size, i.bytes)) = some (some (.bool false), 1, 1) := by kernel_rfl
theorem byteT_put (T : Nat → Bool) (i : Nat) : byteT (put T i true) (i / 8) = byteT T (i / 8) ||| 2 ^ (i % 8) := by
  apply Nat.eq_of_testBit_eq
  intro j
  rw [Nat.testBit_or, Nat.testBit_two_pow, byteT, byteT, wordL_bit, wordL_bit]
  by_cases hj : j < 8
  · simp only [List.getD_eq_getElem?_getD, List.getElem?_map, List.getElem?_range hj, Option.map_some, Option.getD_some, put]
    by_cases e : 8 * (i / 8) + j = i
    · rw [if_pos e, show i % 8 = j from by omega]; simp
    · rw [if_neg e]
      have : ¬ i % 8 = j := by omega
      simp [this]
  · have h1 : ((List.range 8).map fun x => put T i true (8 * (i / 8) + x))[j]? = none := List.getElem?_eq_none (by simp; omega)
    have h2 : ((List.range 8).map fun x => T (8 * (i / 8) + x))[j]? = none := List.getElem?_eq_none (by simp; omega)
    have h3 : ¬ i % 8 = j := by omega
    simp [List.getD_eq_getElem?_getD, h1, h2, h3]
theorem byteT_put_ne (T : Nat → Bool) (i j : Nat) (v : Bool) (h : j ≠ i / 8) : byteT (put T i v) j = byteT T j := by
  unfold byteT
  congr 1
  refine List.map_congr_left fun x hx => ?_
  have := List.mem_range.1 hx
  unfold put
  rw [if_neg (by omega)]
def upto (T : Nat → Bool) (m : Nat) : Nat → Bool := fun i => decide (i < m) && T i
theorem upto_succ (T : Nat → Bool) (m : Nat) : upto T (m + 1) = put (upto T m) m (T m) := by
  funext i
  unfold put upto
  by_cases h : i = m
  · subst h; simp
  · rw [if_neg h]
    by_cases h2 : i < m
    · simp [h2, show i < m + 1 from by omega]
    · simp [h2, show ¬ i < m + 1 from by omega]
theorem upto_self (T : Nat → Bool) (m : Nat) : upto T m m = false := by simp [upto]
theorem byteT_none (j : Nat) : byteT (fun _ => false) j = 0 := by
  apply Nat.eq_of_testBit_eq
  intro i
  rw [byteT, wordL_bit, Nat.zero_testBit, List.getD_eq_getElem?_getD, List.getElem?_map]
  cases (List.range 8)[i]? <;> rfl

theorem or8 (x m : Nat) (hx : x < 256) (hm : m < 8) : bits BinOp.or IntKind.u8 (x : Int) (2 ^ m % 256) = ((x ||| 2 ^ m : Nat) : Int) := by
  have hp : 2 ^ m < 2 ^ 8 := Nat.pow_lt_pow_right (by decide) hm
  rw [show 2 ^ 8 = 256 from rfl] at hp
  have h1 : ((2 : Int) ^ m % 256) = ((2 ^ m : Nat) : Int) := by
    have : ((2 : Int) ^ m) = ((2 ^ m : Nat) : Int) := by simp
    rw [this]
    generalize 2 ^ m = y at *
    omega
  rw [h1]
  exact (bits_nat .u8 8 (by decide) (fun n _ _ => by rw [IntKind.wrap_u8]; omega) x (2 ^ m) hx hp).2

set_option maxHeartbeats 1000000 in
theorem rbytes_any (r g n cap : Nat) (T : Nat → Bool) (w : World) (h : RefAt w r g n cap T) (hT : ∀ i, n ≤ i → T i = false) :
    Calls Try.prog 18 #[.pointer (some ⟨r, 0, none⟩)] w fun e w' => e = .returned (.string (bs (bytesT T ((n + 7) / 8)))) ∧ Mod (fun _ => False) w w' := by
  have c0 : w.cell? ⟨r, 0, none⟩ = some (.slice (some ⟨g, 0, none⟩) n cap) := (cell_of h.hb 0).trans rfl
  have hn1 := h.n1
  have hn2 := h.n2
  have hmk := make_rowI (P := Try.prog) 79 5 (.int .u8 0) 1 ((n + 7) / 8) (((n : Int) + 7) / 8) (by omega) Try.underlying79 info_u8 rfl (by omega) (by unfold maxLen; omega)
  have H := Lib.hid h; clear h
  go_enter Try.func18, Try.ntmps18
  go_wp2
  clear hmk c0
  have H0 : Hid ((w.alloc (.cells (List.replicate ((n + 7) / 8) (.int .u8 0)).toArray 5)).heap[w.heap.size]? = some (.cells (List.replicate ((n + 7) / 8) (Value.int .u8 0)).toArray 5 (0, 0))) := new_at _ _
  have m0 : Mod (fun _ => False) w (w.alloc (.cells (List.replicate ((n + 7) / 8) (.int .u8 0)).toArray 5)) := (Mod.refl _ _).alloc _
  go_loopw [4] (fun i wr => ∃ (k : Nat) (arr : Array Value), k ≤ n ∧ i = .int .i64 k ∧ Hid (wr.heap[w.heap.size]? = some (.cells arr 5 (0, 0))) ∧ Hid (arr.size = (n + 7) / 8 ∧ ∀ j, j < (n + 7) / 8 → arr[j]? = some (.int .u8 (byteT (upto T k) j : Int))) ∧ Mod (fun _ => False) w wr) (fun i _ => n - (intOf i).toNat)
  case atStart => exact ⟨0, _, Nat.zero_le _, rfl, H0, ⟨by simp, fun j hj => by
    rw [show upto T 0 = fun _ => false from by funext i; simp [upto], byteT_none]
    simp [hj]⟩, m0⟩
  case round =>
    obtain ⟨k, arr, hk, rfl, HB, HA, mr⟩ := hrel
    have hR := H.out.mod mr (fun x => x) (fun x => x)
    have c0 : wr.cell? ⟨r, 0, none⟩ = some (.slice (some ⟨g, 0, none⟩) n cap) := (cell_of hR.hb 0).trans rfl
    by_cases hlt : k < n
    · have hd : k / 8 < (n + 7) / 8 := by omega
      have c1 := hR.hc k hlt
      have c2 : wr.cell? ⟨w.heap.size, k / 8, none⟩ = some (.int .u8 (byteT (upto T k) (k / 8) : Int)) := (cell_of HB.out _).trans (HA.out.2 _ hd)
      have f2 : wr.frozen? ⟨w.heap.size, k / 8, none⟩ = false := free_of HB.out _
      have i1 : (k : Int) / 8 < ((n : Int) + 7) / 8 := by omega
      have i2 : (0 : Int) ≤ (k : Int) / 8 := by omega
      have HR := Lib.hid hR; clear hR
      cases hv : T k with
      | true =>
        rw [hv] at c1
        go_wp2
        go_roundw
        case rel =>
          refine ⟨k + 1, _, hlt, by go_num, heap_set HB.out (k / 8) _, ⟨by rw [Array.size_setIfInBounds]; exact HA.out.1, fun j hj => ?_⟩, mr.setCell (Or.inr (Nat.le_refl _)) _⟩
          rw [Array.getElem?_setIfInBounds, upto_succ, hv]
          by_cases e : k / 8 = j
          · subst e
            rw [if_pos rfl, if_pos (by rw [HA.out.1]; exact hd), byteT_put, or8 _ _ (byteT_lt _ _) (Nat.mod_lt _ (by decide))]
          · rw [if_neg e, byteT_put_ne _ _ _ _ (fun x => e x.symm)]; exact HA.out.2 j hj
        case measure => simp [intOf]; omega
      | false =>
        rw [hv] at c1
        go_wp2
        go_roundw
        case rel => exact ⟨k + 1, arr, hlt, by go_num, HB, ⟨HA.out.1, fun j hj => by rw [upto_succ, hv, put_self _ _ _ (upto_self T k)]; exact HA.out.2 j hj⟩, mr⟩
        case measure => simp [intOf]; omega
    · obtain rfl : k = n := by omega
      have hcv := conv_string (P := Try.prog) wr 79 9 5 w.heap.size 0 ((k + 7) / 8) (bytesT T ((k + 7) / 8)) ((k + 7) / 8) (bytesT_length T ((k + 7) / 8)).symm Try.underlying79 Try.underlying5 Try.underlying9
        (fun j hj => by
          rw [bytesT_length] at hj
          rw [Nat.zero_add, cell_of HB.out, bytesT_get, HA.out.2 j hj]
          rw [show upto T k = T from by
            funext i
            unfold upto
            by_cases h : i < k
            · simp [h]
            · simp [h, hT i (by omega)]])
      go_wp2
      go_ret
      exact ⟨rfl, mr⟩
end Go.Proofs.Ytfmlgleeojblkaa
