/- Stats one behind the other, plain. -/
import Derived.Test.YtjhhknmdnkkknaaPStatBack
namespace Go.Proofs.Ytjhhknmdnkkknaa

def allS : Nat → ByteArray → List St → List St × Int
  | 0, _, _ => ([], 0)
  | k + 1, b, acc => if b.size = 0 then (acc, 0) else if (nextS b).2.2 ≠ 0 then ([], (nextS b).2.2) else allS k (b.extract (nextS b).2.1 b.size) (acc ++ [(nextS b).1])
def allR (b : ByteArray) : List St × Int := allS (b.size + 1) b []
theorem next_at {b : ByteArray} (h : (nextS b).2.2 = 0) : 49 ≤ (nextS b).2.1 ∧ (nextS b).2.1 ≤ b.size := by
  obtain ⟨g1, g2, he, hn⟩ := next_full h
  rw [hn]
  refine ⟨?_, g2⟩
  rcases Nat.lt_or_ge (bodyLen b) 47 with g | g
  · exact absurd he (end_short _ (by rw [ByteArray.size_extract]; omega))
  · show 49 ≤ 2 + bodyLen b; omega
theorem allS_end {k : Nat} {b : ByteArray} {acc : List St} (hk : b.size < k) (h : b.size = 0) : allS k b acc = (acc, 0) := by
  obtain ⟨k, rfl⟩ : ∃ j, k = j + 1 := ⟨k - 1, by omega⟩
  rw [allS, if_pos h]
theorem allS_bad {k : Nat} {b : ByteArray} {acc : List St} (hk : b.size < k) (h : b.size ≠ 0) (h2 : (nextS b).2.2 ≠ 0) : allS k b acc = ([], (nextS b).2.2) := by
  obtain ⟨k, rfl⟩ : ∃ j, k = j + 1 := ⟨k - 1, by omega⟩
  rw [allS, if_neg h, if_pos h2]
theorem allS_step {k : Nat} {b : ByteArray} {acc : List St} (hk : b.size < k) (h : b.size ≠ 0) (h2 : (nextS b).2.2 = 0) : ∃ j, k = j + 1 ∧ (b.extract (nextS b).2.1 b.size).size < j ∧ allS k b acc = allS j (b.extract (nextS b).2.1 b.size) (acc ++ [(nextS b).1]) := by
  obtain ⟨k, rfl⟩ : ∃ j, k = j + 1 := ⟨k - 1, by omega⟩
  refine ⟨k, rfl, ?_, ?_⟩
  · have := next_at h2
    rw [ByteArray.size_extract]
    omega
  · rw [allS, if_neg h, if_neg (by omega)]
theorem allS_ok (k : Nat) : ∀ (b : ByteArray) (acc : List St), (∀ s ∈ acc, s.Ok) → ∀ s ∈ (allS k b acc).1, s.Ok := by
  induction k with
  | zero => intro b acc h s hs; cases hs
  | succ k ih =>
    intro b acc h
    rw [allS]
    split
    · exact h
    · split
      · intro s hs; cases hs
      · exact ih _ _ fun s hs => by
          rcases List.mem_append.1 hs with g | g
          · exact h s g
          · rw [List.mem_singleton.1 g]; exact nextS_ok b
end Go.Proofs.Ytjhhknmdnkkknaa
