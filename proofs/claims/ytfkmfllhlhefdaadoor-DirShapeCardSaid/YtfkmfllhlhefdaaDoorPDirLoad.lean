/- Directories, plain: slot by slot. -/
import Derived.Test.YtfkmfllhlhefdaaDoorPDirOps
namespace Go.Proofs.YtfkmfllhlhefdaaDoor

theorem goE_append : ∀ (xs ys : List ByteArray) (i : Nat) (acc : List Ent), goE (xs ++ ys) i acc = match goE xs i acc with | none => none | some l => goE ys (i + xs.length) l := by
  intro xs
  induction xs with
  | nil => intro ys i acc; rfl
  | cons x r ih =>
    intro ys i acc
    rw [List.cons_append, goE, goE]
    cases stepE x i acc with
    | none => rfl
    | some l =>
      simp only
      rw [ih, List.length_cons, show i + 1 + r.length = i + (r.length + 1) from by omega]
theorem goE_snoc {xs : List ByteArray} {x : ByteArray} {l : List Ent} (h : goE xs 0 [] = some l) : goE (xs ++ [x]) 0 [] = stepE x xs.length l := by
  rw [goE_append, h]
  simp only [Nat.zero_add]
  rw [goE]
  cases stepE x xs.length l <;> rfl
theorem goE_prefix {xs ys : List ByteArray} (hp : xs <+: ys) (h : goE xs 0 [] = none) : goE ys 0 [] = none := by
  obtain ⟨zs, rfl⟩ := hp
  rw [goE_append, h]
theorem stepE_len {x : ByteArray} {i : Nat} {l m : List Ent} (h : stepE x i l = some m) : m.length ≤ l.length + 1 := by
  unfold stepE at h
  split at h
  · cases h; omega
  · split at h
    · cases h; simp
    · cases h
theorem goE_len {xs : List ByteArray} {l : List Ent} : ∀ i acc, goE xs i acc = some l → l.length ≤ acc.length + xs.length := by
  induction xs with
  | nil => intro i acc h; cases h; simp
  | cons x r ih =>
    intro i acc h
    rw [goE] at h
    cases hs : stepE x i acc with
    | none => rw [hs] at h; cases h
    | some m =>
      rw [hs] at h
      have := ih _ _ h
      have h2 := stepE_len hs
      rw [List.length_cons]
      omega
/-- the first slot that is free, so far -/
def freeOf (xs : List ByteArray) (n : Nat) : Nat := if xs.any (fun x => decide (x = freeB)) then xs.findIdx (fun x => decide (x = freeB)) else n
theorem freeOf_le {xs : List ByteArray} {n : Nat} (h : xs.length ≤ n) : freeOf xs n ≤ n := by
  unfold freeOf
  split
  · have := List.findIdx_le_length (xs := xs) (p := fun x => decide (x = freeB))
    omega
  · exact Nat.le_refl _
theorem freeOf_snoc {xs : List ByteArray} {x : ByteArray} {n : Nat} (h : xs.length ≤ n) : freeOf (xs ++ [x]) n = if x = freeB then min (freeOf xs n) xs.length else freeOf xs n := by
  unfold freeOf
  rw [List.any_append, List.findIdx_append]
  have hle := List.findIdx_le_length (xs := xs) (p := fun x => decide (x = freeB))
  by_cases ha : xs.any (fun x => decide (x = freeB)) = true
  · have hlt : xs.findIdx (fun x => decide (x = freeB)) < xs.length := by
      rw [List.findIdx_lt_length]
      rw [List.any_eq_true] at ha
      exact ha
    rw [ha, Bool.true_or, if_pos rfl, if_pos rfl, if_pos hlt]
    split
    · omega
    · rfl
  · have ha : xs.any (fun x => decide (x = freeB)) = false := Bool.eq_false_iff.2 ha
    have heq : xs.findIdx (fun x => decide (x = freeB)) = xs.length := by
      rw [List.findIdx_eq_length]
      intro y hy
      rw [List.any_eq_false] at ha
      simpa using ha y hy
    rw [ha, Bool.false_or, heq, if_neg (Nat.lt_irrefl _)]
    by_cases hx : x = freeB
    · have e1 : [x].any (fun x => decide (x = freeB)) = true := by simp [hx]
      have e2 : [x].findIdx (fun x => decide (x = freeB)) = 0 := by rw [List.findIdx_cons]; simp [hx]
      rw [e1, if_pos rfl, if_pos hx, e2, if_neg (by decide)]
      omega
    · have e1 : [x].any (fun x => decide (x = freeB)) = false := by simp [hx]
      rw [e1, if_neg (by decide), if_neg hx, if_neg (by decide)]
theorem freeOf_all (s : ByteArray) : freeOf (slotsL s) (s.size / 64) = freeAt s := by
  unfold freeOf freeAt
  split
  · rfl
  · rename_i h
    have h : (slotsL s).any (fun x => decide (x = freeB)) = false := Bool.eq_false_iff.2 h
    rw [← slotsL_length, eq_comm, List.findIdx_eq_length]
    intro y hy
    rw [List.any_eq_false] at h
    simpa using h y hy
theorem find_snoc {l : List Ent} {e : Ent} (h : hasN l e.name = false) (n : ByteArray) : findE (l ++ [e]) n = if n = e.name then some e else findE l n := by
  unfold findE
  rw [List.find?_append]
  by_cases hn : n = e.name
  · subst hn
    rw [if_pos rfl]
    have : l.find? (fun f => decide (f.name = e.name)) = none := find_none.2 (hasN_false.1 h)
    rw [this]
    simp
  · rw [if_neg hn]
    cases h2 : l.find? (fun f => decide (f.name = n)) with
    | some f => rfl
    | none => simp [Ne.symm hn]
theorem hasP_snoc {l : List Ent} {e : Ent} (p : Nat) : hasP (l ++ [e]) p = if p = e.path then true else hasP l p := by
  unfold hasP
  rw [List.any_append]
  by_cases hp : p = e.path
  · subst hp; simp
  · rw [if_neg hp]; simp [Ne.symm hp]
end Go.Proofs.YtfkmfllhlhefdaaDoor
