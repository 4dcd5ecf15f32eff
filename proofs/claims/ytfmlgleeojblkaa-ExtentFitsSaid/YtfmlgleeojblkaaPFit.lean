/- Counting what Fit takes. -/
import Derived.Test.YtfmlgleeojblkaaExtFit2
namespace Go.Proofs.Ytfmlgleeojblkaa
open Go.RowKit

theorem and_mask (x : Int) : ∃ m : Nat, m ≤ 65535 ∧ bits .and .i64 x 65535 = m := by
  have hle : (BitVec.ofInt 64 x).toNat &&& 65535 ≤ 65535 := Nat.and_le_right
  refine ⟨(BitVec.ofInt 64 x).toNat &&& 65535, hle, ?_⟩
  show IntKind.i64.wrap ((BitVec.ofInt 64 x &&& BitVec.ofInt 64 65535).toNat : Int) = _
  rw [BitVec.toNat_and, show (BitVec.ofInt 64 (65535 : Int)).toNat = 65535 from by decide +kernel, IntKind.wrap_i64]
  omega

theorem cnt_put (T : Nat → Bool) (i : Nat) (v : Bool) (h : T i = !v) : ∀ n, cnt (put T i v) n = if i < n then (if v then cnt T n + 1 else cnt T n - 1) else cnt T n
  | 0 => by simp [cnt]
  | n + 1 => by
    have hc := cnt_pos T i
    rw [cnt_succ, cnt_succ, cnt_put T i v h n]
    by_cases e : n = i
    · subst e
      have : put T n v n = v := by simp [put]
      rw [this, h]
      cases v <;> simp
    · have : put T i v n = T n := by simp [put, e]
      rw [this]
      by_cases hlt : i < n
      · rw [if_pos hlt, if_pos (show i < n + 1 by omega)]
        cases v with
        | true => simp; omega
        | false =>
          have := hc n hlt (by simpa using h)
          simp; omega
      · rw [if_neg hlt, if_neg (show ¬ i < n + 1 by omega)]
where
  cnt_pos (T : Nat → Bool) (i : Nat) : ∀ n, i < n → T i = true → 1 ≤ cnt T n
    | 0, h, _ => absurd h (Nat.not_lt_zero i)
    | n + 1, h, ht => by
      rw [cnt_succ]
      by_cases e : i = n
      · subst e; rw [ht]; simp
      · have := cnt_pos T i n (by omega) ht
        omega

theorem cnt_take (T : Nat → Bool) (a n : Nat) : ∀ k, (∀ j, j < k → T (a + j) = false) → a + k ≤ n → cnt (putN T a k true) n = cnt T n + k
  | 0, _, _ => by rw [putN_zero]; rfl
  | k + 1, h, hk => by
    have ih := cnt_take T a n k (fun j hj => h j (by omega)) (by omega)
    rw [← putN_succ, cnt_put _ _ _ (by simp only [putN, Bool.not_true]; rw [if_neg (by omega)]; exact h k (by omega)), if_pos (by omega), ih]
    simp; omega
theorem cnt_give (T : Nat → Bool) (a n : Nat) : ∀ k, (∀ j, j < k → T (a + j) = true) → a + k ≤ n → cnt (putN T a k false) n + k = cnt T n
  | 0, _, _ => by rw [putN_zero]; rfl
  | k + 1, h, hk => by
    have ih := cnt_give T a n k (fun j hj => h j (by omega)) (by omega)
    have ht : putN T a k false (a + k) = true := by simp only [putN]; rw [if_neg (by omega)]; exact h k (by omega)
    have hp := cnt_put.cnt_pos (putN T a k false) (a + k) n (by omega) ht
    rw [← putN_succ, cnt_put _ _ _ (by rw [ht]; rfl), if_pos (by omega)]
    simp; omega

theorem turnT_nat {N : Nat} {T : Nat → Bool} {a k : Nat} (hf : a + k ≤ N) (h : ∀ i, i < k → T (a + i) = true) : turnT N T a k true = putN T a k false := by
  unfold turnT
  rw [if_pos (turnE_nat hf h), Int.toNat_natCast, Int.toNat_natCast]; rfl

theorem nblk_nat {k : Nat} (h : k ≤ 4) : nblk (k : Int) = 2 ^ k := by
  unfold nblk
  rw [if_neg (by omega), Int.toNat_natCast]

theorem fit_cases (N : Nat) (T : Nat → Bool) (X c bytes : Int) : (∃ e, e ≠ 0 ∧ fitR N T X c bytes = ((0, 0), e, T)) ∨ (∃ x k : Int, mayB X c = true ∧ heldR N T X c = true ∧ -1 ≤ k ∧ k ≤ 4 ∧ x = k ∧
    ((k = c ∧ fitR N T X c bytes = ((X, c), 0, T)) ∨ (c < k ∧ (takeR N T k).2.1 = 0 ∧ fitR N T X c bytes = (((takeR N T k).1, k), 0, turnT N (takeR N T k).2.2 X (nblk c) true)) ∨
      (k < 0 ∧ k < c ∧ fitR N T X c bytes = ((0, -1), 0, turnT N T X (nblk c) true)) ∨ (0 ≤ k ∧ k < c ∧ fitR N T X c bytes = ((X, k), 0, turnT N T (X + nblk k) ((nblk c : Int) - nblk k) true)))) := by
  unfold fitR
  by_cases h1 : mayB X c = false
  · rw [if_pos h1]; exact .inl ⟨2, by decide, rfl⟩
  rw [if_neg h1]
  by_cases h2 : (classR bytes).2 ≠ 0
  · rw [if_pos h2]; exact .inl ⟨_, h2, rfl⟩
  rw [if_neg h2]
  by_cases h3 : heldR N T X c = false
  · rw [if_pos h3]; exact .inl ⟨3, by decide, rfl⟩
  rw [if_neg h3]
  obtain ⟨k, hk, hk1, hk2⟩ : ∃ k : Int, classR bytes = (k, 0) ∧ -1 ≤ k ∧ k ≤ 4 := by
    rcases classR_cases bytes with h | h | h
    · rw [h] at h2; exact absurd (by decide) h2
    · rw [h] at h2; exact absurd (by decide) h2
    · exact h
  rw [hk]
  simp only
  by_cases h4 : k = c
  · rw [if_pos h4]
    exact .inr ⟨k, k, by simpa using h1, by simpa using h3, hk1, hk2, rfl, .inl ⟨h4, rfl⟩⟩
  rw [if_neg h4]
  by_cases h5 : c < k
  · rw [if_pos h5]
    by_cases h6 : (takeR N T k).2.1 ≠ 0
    · rw [if_pos h6]; exact .inl ⟨_, h6, rfl⟩
    · rw [if_neg h6]
      exact .inr ⟨k, k, by simpa using h1, by simpa using h3, hk1, hk2, rfl, .inr (.inl ⟨h5, by simpa using h6, rfl⟩)⟩
  rw [if_neg h5]
  by_cases h7 : k < 0
  · rw [if_pos h7]
    exact .inr ⟨k, k, by simpa using h1, by simpa using h3, hk1, hk2, rfl, .inr (.inr (.inl ⟨h7, by omega, rfl⟩))⟩
  · rw [if_neg h7]
    exact .inr ⟨k, k, by simpa using h1, by simpa using h3, hk1, hk2, rfl, .inr (.inr (.inr ⟨by omega, by omega, rfl⟩))⟩

theorem fit_err {N : Nat} {T : Nat → Bool} {X c bytes : Int} (h : (fitR N T X c bytes).2.1 ≠ 0) : (fitR N T X c bytes).2.2 = T := by
  rcases fit_cases N T X c bytes with ⟨e, he, hf⟩ | ⟨x, k, _, _, _, _, _, ⟨_, hf⟩ | ⟨_, _, hf⟩ | ⟨_, _, hf⟩ | ⟨_, _, hf⟩⟩
  · rw [hf]
  all_goals (rw [hf] at h; exact absurd rfl h)

theorem fit_cnt {N : Nat} {T : Nat → Bool} {X c bytes : Int} (hN : N ≤ 16384) (h : (fitR N T X c bytes).2.1 = 0) :
    cnt (fitR N T X c bytes).2.2 N + nblk c = cnt T N + nblk (fitR N T X c bytes).1.2 ∧ I64' (fitR N T X c bytes).1.1 ∧ I64' (fitR N T X c bytes).1.2 := by
  have big : ∀ x : Int, -1 ≤ x → x ≤ 16384 → I64' x := fun x h1 h2 => by unfold I64'; omega
  rcases fit_cases N T X c bytes with ⟨e, he, hf⟩ | ⟨x, k, hm, hh, hk1, hk2, _, hf⟩
  · rw [hf] at h; exact absurd h he
  · have hXb := mayB_lo' hm
    have hcb := may_lo hm
    obtain ⟨a, rfl⟩ : ∃ a : Nat, X = a := ⟨X.toNat, by omega⟩
    obtain ⟨hh1, hh2⟩ := held_at hh
    rcases hf with ⟨rfl, hf⟩ | ⟨hlt, htk, hf⟩ | ⟨hlt, hlt2, hf⟩ | ⟨hlt, hlt2, hf⟩
    · rw [hf]; simp only; exact ⟨trivial, big _ (by omega) (by omega), big _ (by omega) (by omega)⟩
    · rw [hf]
      obtain ⟨k, rfl⟩ : ∃ k' : Nat, k = k' := ⟨k.toNat, by omega⟩
      cases hfi : (spots N (2 ^ k)).find? (isFree T N (2 ^ k)) with
      | none => rw [takeR_none N T k (by omega) hfi] at htk; cases htk
      | some sp =>
        have h6 := takeR_some N T k (by omega) sp hfi
        have hfree := List.find?_some hfi
        have hsp := sp.2
        unfold isFree at hfree
        have hkeep : ∀ i, i < nblk c → (takeR N T k).2.2 (a + i) = true := fun i hi => take_keeps (hh2 i hi)
        rw [h6] at hkeep ⊢
        simp only at hkeep ⊢
        rw [turnT_nat hh1 hkeep]
        have e1 := cnt_give (putN T sp.1 (2 ^ k) true) a N (nblk c) hkeep hh1
        have e2 := cnt_take T sp.1 N (2 ^ k) (fun j hj => areT_all hfree (sp.1 + j) (by omega) (by omega)) hsp
        rw [nblk_nat (by omega)]
        have hsp3 : sp.1 ≤ N := Nat.le_trans (Nat.le_add_right _ _) hsp
        exact ⟨by omega, big _ (by omega) (by omega), big _ (by omega) (by omega)⟩
    · rw [hf, turnT_nat hh1 hh2]
      simp only
      refine ⟨?_, big _ (by decide) (by decide), big _ (by decide) (by decide)⟩
      rw [cnt_give T a N (nblk c) hh2 hh1]
      simp [nblk]
    · rw [hf]
      have hmono := nblk_mono (a := k) (b := c) (by omega) (by omega)
      obtain ⟨y, hy⟩ : ∃ y, nblk k = y := ⟨_, rfl⟩
      rw [hy] at hmono ⊢
      rw [show ((a : Int) + y) = ((a + y : Nat) : Int) from by omega, show ((nblk c : Int) - y) = ((nblk c - y : Nat) : Int) from by omega]
      have hall : ∀ i, i < nblk c - y → T (a + y + i) = true := fun i hi => by rw [Nat.add_assoc]; exact hh2 (y + i) (by omega)
      rw [turnT_nat (by omega) hall]
      have := cnt_give T (a + y) N (nblk c - y) hall (by omega)
      simp only [hy]
      exact ⟨by omega, big _ (by omega) (by omega), big _ (by omega) (by omega)⟩
end Go.Proofs.Ytfmlgleeojblkaa
