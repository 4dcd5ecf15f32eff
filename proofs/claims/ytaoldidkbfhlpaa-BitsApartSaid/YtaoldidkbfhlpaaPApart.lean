/- Pure: what is taken stands in runs that do not meet; the largest free class. -/
import Derived.Test.YtaoldidkbfhlpaaBitsMore
namespace Go.Proofs.Ytaoldidkbfhlpaa

theorem spots_mod (n K : Nat) (x : Spot n K) (h : x ∈ spots n K) : x.1 % K = 0 := by
  obtain ⟨j, hj, e⟩ := List.mem_iff_getElem.1 h
  rw [← e, spots_get, Nat.mul_mod_left]
theorem spots_mem (n K j : Nat) (h1 : 0 < K) (h : j * K + K ≤ n) : ∃ x ∈ spots n K, x.1 = j * K := by
  have hj : j < (spots n K).length := by
    rw [spots_length]
    have := (Nat.le_div_iff_mul_le (x := j + 1) (y := n) (k := K) h1).2 (by rw [Nat.add_mul, Nat.one_mul]; exact h)
    omega
  exact ⟨(spots n K)[j], List.getElem_mem hj, spots_get n K j hj⟩
theorem findT_neg (n : Nat) (T : Nat → Bool) (c : Nat) : findT n T c < 0 ↔ (spots n (2 ^ c)).find? (isFree T n (2 ^ c)) = none := by
  unfold findT
  cases (spots n (2 ^ c)).find? (isFree T n (2 ^ c)) with
  | none => simp
  | some x => simp
/-- where a run is free, a smaller one is -/
theorem findT_down (n : Nat) (T : Nat → Bool) (c k : Nat) (hck : c ≤ k) (h : findT n T c < 0) : findT n T k < 0 := by
  rw [findT_neg, List.find?_eq_none] at *
  intro x hx hfree
  obtain ⟨j, hj, e⟩ := List.mem_iff_getElem.1 hx
  have hxv : x.1 = j * 2 ^ k := by rw [← e, spots_get]
  obtain ⟨d, rfl⟩ := Nat.exists_eq_add_of_le hck
  have hp : 2 ^ (c + d) = 2 ^ d * 2 ^ c := by rw [Nat.pow_add, Nat.mul_comm]
  have h1 : 2 ^ c ≤ 2 ^ (c + d) := Nat.pow_le_pow_right (by decide) (Nat.le_add_right c d)
  have hx2 := x.2
  obtain ⟨y, hy, ey⟩ := spots_mem n (2 ^ c) (j * 2 ^ d) Nat.one_le_two_pow (by rw [Nat.mul_assoc, ← hp, ← hxv]; omega)
  have hyx : y.1 = x.1 := by rw [ey, hxv, hp, Nat.mul_assoc]
  refine h y hy ?_
  have hf : areT T x.1 (2 ^ (c + d)) false = true := hfree
  unfold isFree
  rw [hyx]
  exact areT_true fun i hi => areT_all hf _ (by omega) (by omega)
theorem largK_lt (n : Nat) (T : Nat → Bool) (c : Nat) (h : findT n T c < 0) : ∀ m, largK n T m < c
  | 0 => by show (-1 : Int) < c; omega
  | m + 1 => by
    unfold largK
    by_cases hm : findT n T m < 0
    · rw [if_pos hm]; exact largK_lt n T c h m
    · rw [if_neg hm]
      rcases Nat.lt_or_ge m c with g | g
      · omega
      · exact absurd (findT_down n T c m g h) hm

structure Held (n : Nat) (T : Nat → Bool) (P : List (Nat × Nat)) : Prop where
  fit : ∀ p ∈ P, p.1 + p.2 ≤ n
  cov : ∀ j, T j = P.any fun p => decide (p.1 ≤ j) && decide (j < p.1 + p.2)
  dis : P.Pairwise fun p q => ∀ j, ¬ ((p.1 ≤ j ∧ j < p.1 + p.2) ∧ (q.1 ≤ j ∧ j < q.1 + q.2))
theorem Held.nil (n : Nat) : Held n (fun _ => false) [] := ⟨fun p h => (by cases h), fun _ => rfl, List.Pairwise.nil⟩
theorem Held.taken {n : Nat} {T : Nat → Bool} {P : List (Nat × Nat)} (h : Held n T P) {p : Nat × Nat} (hp : p ∈ P) {j : Nat} (h1 : p.1 ≤ j) (h2 : j < p.1 + p.2) : T j = true := by
  rw [h.cov, List.any_eq_true]
  exact ⟨p, hp, by simp [h1, h2]⟩
theorem Held.take {n : Nat} {T : Nat → Bool} {P : List (Nat × Nat)} (h : Held n T P) (x k : Nat) (hx : x + k ≤ n) (hf : areT T x k false = true) : Held n (putN T x k true) (P ++ [(x, k)]) := by
  refine ⟨fun p hp => ?_, fun j => ?_, ?_⟩
  · rcases List.mem_append.1 hp with hp | hp
    · exact h.fit p hp
    · rw [List.mem_singleton.1 hp]; exact hx
  · rw [List.any_append, ← h.cov]
    simp only [List.any_cons, List.any_nil, Bool.or_false]
    unfold putN
    by_cases hj : x ≤ j ∧ j < x + k
    · rw [if_pos hj]; simp [hj.1, hj.2]
    · rw [if_neg hj]
      have : (decide (x ≤ j) && decide (j < x + k)) = false := by
        rw [Bool.eq_false_iff]; intro hh
        simp only [Bool.and_eq_true, decide_eq_true_eq] at hh
        exact hj hh
      rw [this, Bool.or_false]
  · rw [List.pairwise_append]
    refine ⟨h.dis, List.pairwise_singleton _ _, fun p hp q hq j hj => ?_⟩
    rw [List.mem_singleton.1 hq] at hj
    have h1 := h.taken hp hj.1.1 hj.1.2
    have h2 := areT_all hf j hj.2.1 hj.2.2
    rw [h1] at h2
    cases h2
theorem Held.gone {n : Nat} {T : Nat → Bool} {P : List (Nat × Nat)} (h : Held n T P) (x : Nat) (hx : x ≤ n) : Held n T (P ++ [(x, 0)]) := by
  refine ⟨fun p hp => ?_, fun j => ?_, ?_⟩
  · rcases List.mem_append.1 hp with hp | hp
    · exact h.fit p hp
    · rw [List.mem_singleton.1 hp]; exact hx
  · rw [List.any_append, ← h.cov]
    have : (decide (x ≤ j) && decide (j < x + 0)) = false := by
      rw [Bool.eq_false_iff]; intro hh
      simp only [Bool.and_eq_true, decide_eq_true_eq] at hh
      omega
    simp only [List.any_cons, List.any_nil, Bool.or_false, this]
  · rw [List.pairwise_append]
    refine ⟨h.dis, List.pairwise_singleton _ _, fun p hp q hq j hj => ?_⟩
    rw [List.mem_singleton.1 hq] at hj
    simp only at hj
    omega
theorem putN_back {T : Nat → Bool} {x k : Nat} (hf : areT T x k false = true) : putN (putN T x k true) x k false = T := by
  funext j
  unfold putN
  by_cases hj : x ≤ j ∧ j < x + k
  · rw [if_pos hj]; exact (areT_all hf j hj.1 hj.2).symm
  · rw [if_neg hj, if_neg hj]
theorem areT_put (T : Nat → Bool) (x k : Nat) (v : Bool) : areT (putN T x k v) x k v = true :=
  areT_true fun j hj => by unfold putN; rw [if_pos (by omega)]
theorem Held.give {n : Nat} {T : Nat → Bool} {x k : Nat} {P : List (Nat × Nat)} (h : Held n T ((x, k) :: P)) : areT T x k true = true ∧ Held n (putN T x k false) P := by
  refine ⟨areT_true fun j hj => h.taken (List.mem_cons_self ..) (by simp) (by simp; omega), fun p hp => h.fit p (List.mem_cons_of_mem _ hp), fun j => ?_, (List.pairwise_cons.1 h.dis).2⟩
  unfold putN
  by_cases hj : x ≤ j ∧ j < x + k
  · rw [if_pos hj]
    symm
    rw [Bool.eq_false_iff]
    intro hh
    rw [List.any_eq_true] at hh
    obtain ⟨q, hq, hq2⟩ := hh
    simp only [Bool.and_eq_true, decide_eq_true_eq] at hq2
    exact (List.pairwise_cons.1 h.dis).1 q hq j ⟨hj, hq2⟩
  · rw [if_neg hj, h.cov, List.any_cons]
    have : (decide (x ≤ j) && decide (j < x + k)) = false := by
      rw [Bool.eq_false_iff]; intro hh
      simp only [Bool.and_eq_true, decide_eq_true_eq] at hh
      exact hj hh
    rw [this, Bool.false_or]
theorem Held.none {n : Nat} {T : Nat → Bool} (h : Held n T []) (m : Nat) : cnt T m = 0 := by
  induction m with
  | zero => rfl
  | succ m ih => rw [cnt_succ, ih, h.cov]; rfl
/-- the owner's row: from a on k have v -/
def oput (ow : Nat → Int) (a k : Nat) (v : Int) : Nat → Int := fun j => if a ≤ j ∧ j < a + k then v else ow j
theorem oput_zero (ow : Nat → Int) (a : Nat) (v : Int) : oput ow a 0 v = ow := by
  funext j; unfold oput; rw [if_neg (by omega)]
theorem oput_succ (ow : Nat → Int) (a k : Nat) (v : Int) (j : Nat) : oput ow a (k + 1) v j = if a + k = j then v else oput ow a k v j := by
  unfold oput
  by_cases h : a + k = j
  · rw [if_pos h, if_pos (by omega)]
  · rw [if_neg h]
    by_cases h2 : a ≤ j ∧ j < a + k
    · rw [if_pos h2, if_pos (by omega)]
    · rw [if_neg h2, if_neg (by omega)]
end Go.Proofs.Ytaoldidkbfhlpaa
