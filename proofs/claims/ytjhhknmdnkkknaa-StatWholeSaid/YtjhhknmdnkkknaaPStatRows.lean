/- What the iterator yields and what All tells, plain. -/
import Derived.Test.YtjhhknmdnkkknaaStatRow
namespace Go.Proofs.Ytjhhknmdnkkknaa

theorem rows_all (k : Nat) : ∀ (b : ByteArray) (acc : List St), b.size < k → ((∀ x ∈ rowsS k b, x.2 = 0) → allS k b acc = (acc ++ (rowsS k b).map Prod.fst, 0)) ∧ (∀ x ∈ rowsS k b, x.2 ≠ 0 → allS k b acc = ([], x.2)) := by
  induction k with
  | zero => intro b acc h; omega
  | succ k ih =>
    intro b acc h
    by_cases hz : b.size = 0
    · rw [rowsS_end hz, allS_end h hz]
      exact ⟨fun _ => by simp, fun x hx => by cases hx⟩
    · by_cases he : (nextS b).2.2 ≠ 0
      · rw [rowsS_bad h hz he, allS_bad h hz he]
        refine ⟨fun g => absurd (g _ (List.mem_singleton.2 rfl)) he, fun x hx _ => ?_⟩
        rw [List.mem_singleton.1 hx]
      · obtain ⟨j, hj, hlt, hr⟩ := rowsS_step h hz (by omega)
        obtain ⟨j', hj', hlt', hr'⟩ := allS_step (acc := acc) h hz (by omega)
        obtain rfl : j = k := by omega
        obtain rfl : j' = j := by omega
        rw [hr, hr']
        obtain ⟨h1, h2⟩ := ih (b.extract (nextS b).2.1 b.size) (acc ++ [(nextS b).1]) hlt
        refine ⟨fun g => ?_, fun x hx hne => ?_⟩
        · rw [h1 fun x hx => g x (List.mem_cons_of_mem _ hx)]
          simp
        · rcases List.mem_cons.1 hx with rfl | hx
          · exact absurd rfl hne
          · exact h2 x hx hne
theorem all_rows_ok {b : ByteArray} (h : ∀ x ∈ rowsR b, x.2 = 0) : allR b = ((rowsR b).map Prod.fst, 0) := by
  have := (rows_all (b.size + 1) b [] (by omega)).1 h
  rw [List.nil_append] at this
  exact this
theorem all_rows_bad {b : ByteArray} {x : St × Int} (h : x ∈ rowsR b) (hx : x.2 ≠ 0) : allR b = ([], x.2) := (rows_all (b.size + 1) b [] (by omega)).2 x h hx
theorem rowsS_len (k : Nat) : ∀ b : ByteArray, (rowsS k b).length ≤ b.size + 1 := by
  induction k with
  | zero => intro b; exact Nat.zero_le _
  | succ k ih =>
    intro b
    rw [rowsS]
    split
    · exact Nat.zero_le _
    · split
      · simp
      · rename_i h1 h2
        have h3 := next_at (b := b) (by omega)
        have := ih (b.extract (nextS b).2.1 b.size)
        rw [ByteArray.size_extract] at this
        rw [List.length_cons]
        omega
theorem rowsR_len (b : ByteArray) : (rowsR b).length ≤ b.size + 1 := rowsS_len _ b
theorem allS_len (k : Nat) : ∀ (b : ByteArray) (acc : List St), (allS k b acc).1.length ≤ acc.length + b.size := by
  induction k with
  | zero => intro b acc; exact Nat.zero_le _
  | succ k ih =>
    intro b acc
    rw [allS]
    split
    · exact Nat.le_add_right _ _
    · split
      · exact Nat.zero_le _
      · have h3 := next_at (b := b) (by omega)
        have := ih (b.extract (nextS b).2.1 b.size) (acc ++ [(nextS b).1])
        rw [ByteArray.size_extract, List.length_append, List.length_singleton] at this
        omega
theorem allR_len (b : ByteArray) : (allR b).1.length ≤ b.size := by
  have := allS_len (b.size + 1) b []
  rw [List.length_nil, Nat.zero_add] at this
  exact this
end Go.Proofs.Ytjhhknmdnkkknaa
