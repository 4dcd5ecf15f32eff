/- A window of a directory's stats, plain. -/
import Derived.Test.YtjhhknmdnkkknaaPStat
namespace Go.Proofs.Ytjhhknmdnkkknaa

def encB (s : St) : ByteArray := (encS s).1
def szB (l : List ByteArray) : Nat := (l.map ByteArray.size).sum
/-- the stats from place off on -/
def dropTo (off : Nat) : List ByteArray → Nat → Option (List ByteArray)
  | [], a => if a = off then some [] else none
  | b :: l, a => if a = off then some (b :: l) else dropTo off l (a + b.size)
/-- as many as fit -/
def fillW (count : Nat) : List ByteArray → ByteArray → ByteArray
  | [], acc => acc
  | b :: l, acc => if count < acc.size + b.size then acc else fillW count l (acc ++ b)
def winS (L : List St) (off count : Nat) : ByteArray × Int :=
  if ∀ s ∈ L, (encS s).2 = 0 then
    match dropTo off (L.map encB) 0 with
    | none => (ByteArray.empty, 2)
    | some [] => (ByteArray.empty, 0)
    | some (b :: l) => if count < b.size then (ByteArray.empty, 50) else (fillW count (b :: l) ByteArray.empty, 0)
  else (ByteArray.empty, 4)
theorem encS_bad {s : St} (h : (encS s).2 ≠ 0) : (encS s).2 = 4 := by
  unfold encS at *
  split at h
  · rename_i g; rw [if_pos g]
  · exact absurd rfl h
theorem encB_size {s : St} (h : (encS s).2 = 0) : 49 ≤ (encB s).size ∧ (encB s).size ≤ 65537 ∧ (encB s).size = 2 + s.tot := by
  unfold encB
  unfold encS at *
  split at h
  · exact absurd h (by decide)
  · rename_i g
    rw [if_neg g]
    rw [bs_size, List.length_append, leBytes_length, St.body_length]
    have : 47 ≤ s.tot := by unfold St.tot; omega
    omega
theorem encB_le (s : St) : (encB s).size ≤ 65537 := by
  by_cases h : (encS s).2 = 0
  · exact (encB_size h).2.1
  · have : encB s = ByteArray.empty := by
      unfold encB
      unfold encS at *
      split at h
      · rename_i g; rw [if_pos g]
      · exact absurd rfl h
    rw [this]; decide
theorem winS_bad {L : List St} {s : St} {off count : Nat} (hs : s ∈ L) (h : (encS s).2 ≠ 0) : winS L off count = (ByteArray.empty, 4) := by
  unfold winS
  rw [if_neg (fun g => h (g s hs))]
theorem winS_ok {L : List St} {off count : Nat} (h : ∀ s ∈ L, (encS s).2 = 0) : winS L off count = match dropTo off (L.map encB) 0 with
    | none => (ByteArray.empty, 2)
    | some [] => (ByteArray.empty, 0)
    | some (b :: l) => if count < b.size then (ByteArray.empty, 50) else (fillW count (b :: l) ByteArray.empty, 0) := by
  unfold winS
  rw [if_pos h]
theorem szB_succ (B : List ByteArray) (k : Nat) (h : k < B.length) : szB (B.take (k + 1)) = szB (B.take k) + B[k].size := by
  rw [List.take_succ_eq_append_getElem h]
  simp only [szB, List.map_append, List.sum_append, List.map_cons, List.map_nil, List.sum_cons, List.sum_nil, Nat.add_zero]
theorem szB_le (B : List ByteArray) (M : Nat) (h : ∀ b ∈ B, b.size ≤ M) : szB B ≤ B.length * M := by
  induction B with
  | nil => simp [szB]
  | cons a l ih =>
    have h1 := ih fun s hs => h s (List.mem_cons_of_mem _ hs)
    have h2 := h a (List.mem_cons_self ..)
    simp only [szB, List.map_cons, List.sum_cons, List.length_cons] at *
    rw [Nat.add_mul]
    omega
theorem szB_enc (L : List St) (k : Nat) (h : L.length ≤ 60) : szB ((L.map encB).take k) ≤ 60 * 65537 := by
  refine Nat.le_trans (szB_le _ 65537 fun b hb => ?_) (Nat.mul_le_mul (by rw [List.length_take, List.length_map]; omega) (Nat.le_refl _))
  obtain ⟨s, _, rfl⟩ := List.mem_map.1 (List.mem_of_mem_take hb)
  exact encB_le s
theorem dropTo_hit (off : Nat) (B : List ByteArray) (k : Nat) (hk : k < B.length) (h : szB (B.take k) = off) : dropTo off (B.drop k) (szB (B.take k)) = some (B.drop k) := by
  rw [List.drop_eq_getElem_cons hk, dropTo, if_pos h]
theorem dropTo_miss (off : Nat) (B : List ByteArray) (k : Nat) (hk : k < B.length) (h : szB (B.take k) ≠ off) : dropTo off (B.drop k) (szB (B.take k)) = dropTo off (B.drop (k + 1)) (szB (B.take (k + 1))) := by
  rw [List.drop_eq_getElem_cons hk, dropTo, if_neg h, szB_succ B k hk]
theorem dropTo_end (off : Nat) (B : List ByteArray) : dropTo off (B.drop B.length) (szB (B.take B.length)) = if szB B = off then some [] else none := by
  rw [List.drop_length, List.take_length, dropTo]
theorem fillW_go (count : Nat) (l : List ByteArray) (k : Nat) (hk : k < l.length) (acc : ByteArray) (h : ¬ count < acc.size + l[k].size) : fillW count (l.drop k) acc = fillW count (l.drop (k + 1)) (acc ++ l[k]) := by
  rw [List.drop_eq_getElem_cons hk, fillW, if_neg h]
theorem fillW_stop (count : Nat) (l : List ByteArray) (k : Nat) (hk : k < l.length) (acc : ByteArray) (h : count < acc.size + l[k].size) : fillW count (l.drop k) acc = acc := by
  rw [List.drop_eq_getElem_cons hk, fillW, if_pos h]
theorem fillW_end (count : Nat) (l : List ByteArray) (acc : ByteArray) : fillW count (l.drop l.length) acc = acc := by
  rw [List.drop_length, fillW]
end Go.Proofs.Ytjhhknmdnkkknaa
