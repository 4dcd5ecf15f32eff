/- Read of the bits. -/
import Derived.Test.YtaoldidkbfhlpaaBitsMore
import Derived.Test.YtaoldidkbfhlpaaRegionLast
namespace Go.Proofs.Ytaoldidkbfhlpaa
open Go.RowKit

/-- bit i of a text -/
def sbit (s : ByteArray) (i : Nat) : Bool := decide ((s.data.toList.getD (i / 8) 0).toNat / 2 ^ (i % 8) % 2 = 1)
def readT (s : ByteArray) (m : Nat) : Nat → Bool := fun i => decide (i < m) && sbit s i
theorem readT_zero (s : ByteArray) : readT s 0 = fun _ => false := by funext i; simp [readT]
theorem readT_succ (s : ByteArray) (m : Nat) : put (readT s m) m (sbit s m) = readT s (m + 1) := by
  funext i
  unfold put readT
  by_cases h : i = m
  · subst h; simp
  · rw [if_neg h]
    by_cases h2 : i < m
    · simp [h2, show i < m + 1 from by omega]
    · simp [h2, show ¬ i < m + 1 from by omega]
theorem readT_self (s : ByteArray) (m : Nat) : readT s m m = false := by simp [readT]
/-- bit m joins its word -/
theorem word_join (s : ByteArray) (m : Nat) : word (readT s m) (m / 64) ||| ((s.data.toList.getD (m / 8) 0).toNat / 2 ^ (m % 8) % 2) * 2 ^ (m % 64) = word (readT s (m + 1)) (m / 64) := by
  rw [← readT_succ]
  by_cases h : sbit s m = true
  · have h1 := h
    simp only [sbit, decide_eq_true_eq] at h1
    rw [h, h1, word_put_true, Nat.one_mul]
  · have h2 : sbit s m = false := Bool.eq_false_iff.2 h
    have h1 : (s.data.toList.getD (m / 8) 0).toNat / 2 ^ (m % 8) % 2 = 0 := by
      simp only [sbit, decide_eq_false_iff_not] at h2
      omega
    rw [h2, h1, put_self _ _ _ (readT_self s m), Nat.zero_mul, Nat.or_zero]

theorem str_ne {a b : ByteArray} (h : ¬ a = b) : (a.toList == b.toList) = false := by
  rw [beq_eq_false_iff_ne, ByteArray.toList_eq, ByteArray.toList_eq]
  intro e
  exact h (ByteArray.ext (Array.toList_inj.1 e))
theorem getD_at (s : ByteArray) (j : Nat) (h : j < s.size) : s.data.toList.getD j 0 = s[j] := by
  rw [List.getD_eq_getElem?_getD, Array.getElem?_toList, Array.getElem?_eq_getElem h]; rfl
theorem and1_u8 (x m : Nat) (hx : x < 256) : bits .and .u8 ((x : Int) / 2 ^ m) 1 = ((x / 2 ^ m % 2 : Nat) : Int) := by
  have h1 : ((x : Int) / 2 ^ m) = ((x / 2 ^ m : Nat) : Int) := by simp
  have h2 : x / 2 ^ m < 256 := Nat.lt_of_le_of_lt (Nat.div_le_self _ _) hx
  rw [h1]
  generalize x / 2 ^ m = y at *
  have h3 := bits_mask .u8 8 (by decide) (fun n _ _ => by rw [IntKind.wrap_u8]; omega) 1 (by decide) (y : Int) (by omega) (by omega)
  exact h3
theorem join_eq (s : ByteArray) (k : Nat) (h : k / 8 < s.size) :
    bits BinOp.or IntKind.u64 (word (readT s k) (k / 64) : Int) (IntKind.u64.wrap (IntKind.u64.wrap (bits BinOp.and IntKind.u8 ((s[k / 8].toNat : Int) / 2 ^ (k % 8)) 1) * 2 ^ (k % 64))) = (word (readT s (k + 1)) (k / 64) : Int) := by
  have hx : s[k / 8].toNat < 256 := UInt8.toNat_lt _
  rw [and1_u8 _ _ hx, ← word_join, getD_at s _ h]
  have hy : s[k / 8].toNat / 2 ^ (k % 8) % 2 < 2 := Nat.mod_lt _ (by decide)
  generalize s[k / 8].toNat / 2 ^ (k % 8) % 2 = y at *
  have hp := pow63 k
  have h1 : IntKind.u64.wrap (y : Int) = y := by rw [IntKind.wrap_u64]; omega
  have h2 : (y : Int) * 2 ^ (k % 64) = ((y * 2 ^ (k % 64) : Nat) : Int) := by simp
  have h3 : y * 2 ^ (k % 64) < 18446744073709551616 := by
    rcases (show y = 0 ∨ y = 1 from by omega) with rfl | rfl
    · simp
    · rw [Nat.one_mul]; exact hp
  rw [h1, h2, show IntKind.u64.wrap ((y * 2 ^ (k % 64) : Nat) : Int) = ((y * 2 ^ (k % 64) : Nat) : Int) from by rw [IntKind.wrap_u64]; omega, bits_or_u64_nat _ _ (word_lt _ _) h3]

theorem read_no (s : ByteArray) (n : Int) (w : World) (h : n < 1 ∨ 16384 < n) :
    Calls Try.prog 13 #[.string s, .int .i64 n] w fun e w' => e = .returned (.tuple #[.pointer none, .int .i64 2]) ∧ w' = w := by
  go_enter Try.func13, Try.ntmps13
  go_wp2_with fail
  refine (new_no n _ h).mono ?_
  rintro e w1 ⟨rfl, rfl⟩
  go_wp2
  go_ret2
  exact ⟨rfl, rfl⟩

/-- how Read answers, of so many as may be -/
def readE (s : ByteArray) (n : Nat) : Int := if s.size < (n + 7) / 8 then 50 else if bs (bytesT (readT s n) ((n + 7) / 8)) = s then 0 else 51
def readP (s : ByteArray) (n b : Nat) : Option Addr := if readE s n = 0 then some ⟨b, 0, none⟩ else none
theorem readE_short {s : ByteArray} {n : Nat} (h : s.size < (n + 7) / 8) : readE s n = 50 := if_pos h
theorem readE_ok {s : ByteArray} {n : Nat} (h : ¬ s.size < (n + 7) / 8) (h2 : bs (bytesT (readT s n) ((n + 7) / 8)) = s) : readE s n = 0 := by unfold readE; rw [if_neg h, if_pos h2]
theorem readE_form {s : ByteArray} {n : Nat} (h : ¬ s.size < (n + 7) / 8) (h2 : ¬ bs (bytesT (readT s n) ((n + 7) / 8)) = s) : readE s n = 51 := by unfold readE; rw [if_neg h, if_neg h2]

set_option maxHeartbeats 1000000 in
theorem read_any (s : ByteArray) (n : Nat) (w : World) (b g : Nat) (hb : b = w.heap.size + 1) (hg : g = w.heap.size) (h1 : 1 ≤ n) (h2 : n ≤ 16384) (hs : s.size ≤ maxLen) :
    Calls Try.prog 13 #[.string s, .int .i64 n] w fun e w' =>
      e = .returned (.tuple #[.pointer (readP s n b), .int .i64 (readE s n)]) ∧ (readE s n = 0 → BitsAt w' b g n (readT s n)) ∧ Mod (fun _ => False) w w' := by
  unfold maxLen at hs
  have hn := new_any n w h1 h2
  rw [← hb, ← hg] at hn
  have hgl : w.heap.size ≤ g := by omega
  have hbl : w.heap.size ≤ b := by omega
  clear hb hg
  go_enter Try.func13, Try.ntmps13
  go_wp2_with fail
  refine hn.mono ?_
  rintro e w1 ⟨rfl, hB, hm⟩
  have HB := Lib.hid hB; clear hB
  have HM := Lib.hid hm; clear hm hn
  by_cases hsh : s.size < (n + 7) / 8
  · have t1 : decide ((s.size : Int) < ((n : Int) + 7) / 8) = true := by simp; omega
    go_wp2
    go_ret2
    have hq := readE_short hsh
    unfold readP
    rw [hq]
    exact ⟨rfl, fun h => (by cases h), HM.out⟩
  · have t1 : decide ((s.size : Int) < ((n : Int) + 7) / 8) = false := by simp; omega
    go_wp2
    go_loopw [24] (fun i wr => ∃ k : Nat, k ≤ n ∧ i = .int .i64 k ∧ Hid (BitsAt wr b g n (readT s k)) ∧ Hid (Mod (fun _ => False) w wr)) (fun i _ => n - (intOf i).toNat)
    case atStart => exact ⟨0, Nat.zero_le _, rfl, by rw [readT_zero]; exact HB, HM⟩
    case round =>
      obtain ⟨k, hk, rfl, HBk, HMk⟩ := hrel
      by_cases hlt : k < n
      · have t2 : decide (k < n) = true := by simp [hlt]
        have c1 : wr.cell? ⟨b, 1, none⟩ = some (.slice (some ⟨g, 0, none⟩) ((n + 63) / 64) ((n + 63) / 64)) := (cell_of HBk.out.hb 1).trans rfl
        have c2 : wr.cell? ⟨g, k / 64, none⟩ = some (.int .u64 (word (readT s k) (k / 64) : Int)) := HBk.out.cell k hlt
        have f2 : wr.frozen? ⟨g, k / 64, none⟩ = false := free_of HBk.out.hg _
        have i1 : (k : Int) / 64 < ((n : Int) + 63) / 64 := by omega
        have i2 : (k : Int) / 8 < s.size := by omega
        have i3 : (0 : Int) ≤ (k : Int) / 8 := by omega
        have i4 : (0 : Int) ≤ (k : Int) / 64 := by omega
        have i5 : k / 8 < s.size := by omega
        go_wp2
        refine wp_region_then (k := 24) _ _ rfl rfl rfl (by kernel_rfl) (by kernel_rfl) (by kernel_rfl) ?_
        simp only [List.take_succ_cons, List.take_zero]
        repeat (go_big_quiet_step (fail))
        refine wpQuiet_nil ?_
        intro _ hw'
        obtain ⟨nq, hw''⟩ := hw'
        subst hw''
        intro K hK
        go_simp
        refine hK _ _ ?_; clear hK K
        go_wp2
        go_roundw
        case rel =>
          refine ⟨k + 1, hlt, by go_num, ?_, ?_⟩
          · rw [join_eq s k i5, ← readT_succ]
            exact (HBk.out.mod ((Mod.refl (fun _ => False) wr).drewN nq) (fun x => x) (fun x => x)).set k hlt _
          · exact (HMk.out.drewN nq).setCell (p := ⟨g, k / 64, none⟩) (Or.inr hgl) _
        case measure => simp [intOf]; omega
      · have t2 : decide (k < n) = false := by simp; omega
        go_wp2_with fail
        obtain rfl : k = n := by omega
        refine (Bytes_any b g k _ _ HBk.out).mono ?_
        rintro e w2 ⟨rfl, hm2⟩
        have HM2 := Lib.hid hm2; clear hm2
        by_cases hq : bs (bytesT (readT s k) ((k + 7) / 8)) = s
        · have hq2 := readE_ok hsh hq
          have t3 : ((bs (bytesT (readT s k) ((k + 7) / 8))).toList == s.toList) = true := by rw [hq]; exact beq_self_eq_true _
          have HQ := Lib.hid hq2; clear hq2
          go_wp2
          go_ret2
          unfold readP
          rw [HQ.out]
          exact ⟨rfl, fun _ => HBk.out.mod HM2.out (fun x => x) (fun x => x), HMk.out.trans HM2.out⟩
        · have hq2 := readE_form hsh hq
          have t3 : ((bs (bytesT (readT s k) ((k + 7) / 8))).toList == s.toList) = false := str_ne hq
          have HQ := Lib.hid hq2; clear hq2
          go_wp2
          go_ret2
          unfold readP
          rw [HQ.out]
          exact ⟨rfl, fun h => (by cases h), HMk.out.trans HM2.out⟩
end Go.Proofs.Ytaoldidkbfhlpaa
