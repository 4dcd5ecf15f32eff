/- Directories, plain: rows of slots. -/
import Derived.Test.YtfkmfllhlhefdaaDoorPDir
namespace Go.Proofs.YtfkmfllhlhefdaaDoor

def mkE (x : ByteArray) (i : Nat) : Ent := ⟨i, readP x, readN x⟩
def entsF : List ByteArray → Nat → List Ent
  | [], _ => []
  | x :: r, i => if x = freeB then entsF r (i + 1) else mkE x i :: entsF r (i + 1)
def Apart (a b : Ent) : Prop := a.name ≠ b.name ∧ a.path ≠ b.path
def Fine (xs : List ByteArray) : Prop := ∀ x ∈ xs, x = freeB ∨ readOk x = true
theorem hasN_false {l : List Ent} {n : ByteArray} : hasN l n = false ↔ ∀ e ∈ l, e.name ≠ n := by simp [hasN]
theorem hasP_false {l : List Ent} {p : Nat} : hasP l p = false ↔ ∀ e ∈ l, e.path ≠ p := by simp [hasP]
theorem goE_spec : ∀ (xs : List ByteArray) (i : Nat) (acc l : List Ent), acc.Pairwise Apart →
    (goE xs i acc = some l ↔ Fine xs ∧ (acc ++ entsF xs i).Pairwise Apart ∧ l = acc ++ entsF xs i) := by
  intro xs
  induction xs with
  | nil =>
    intro i acc l ha
    simp only [goE, entsF, List.append_nil]
    constructor
    · intro h; cases h; exact ⟨fun x h => (by cases h), ha, rfl⟩
    · rintro ⟨_, _, rfl⟩; rfl
  | cons x r ih =>
    intro i acc l ha
    by_cases hf : x = freeB
    · have e1 : goE (x :: r) i acc = goE r (i + 1) acc := by rw [goE, stepE, if_pos hf]
      have e2 : entsF (x :: r) i = entsF r (i + 1) := by rw [entsF, if_pos hf]
      rw [e1, e2, ih _ _ _ ha]
      constructor
      · rintro ⟨h1, h2, h3⟩
        exact ⟨fun z hz => by rcases List.mem_cons.1 hz with rfl | hz; exact Or.inl hf; exact h1 z hz, h2, h3⟩
      · rintro ⟨h1, h2, h3⟩
        exact ⟨fun z hz => h1 z (List.mem_cons_of_mem _ hz), h2, h3⟩
    · have e2 : acc ++ entsF (x :: r) i = (acc ++ [mkE x i]) ++ entsF r (i + 1) := by rw [entsF, if_neg hf, List.append_assoc]; rfl
      by_cases hc : readOk x = true ∧ hasN acc (readN x) = false ∧ hasP acc (readP x) = false
      · have e1 : goE (x :: r) i acc = goE r (i + 1) (acc ++ [mkE x i]) := by rw [goE, stepE, if_neg hf, if_pos hc]; rfl
        have ha2 : (acc ++ [mkE x i]).Pairwise Apart := by
          rw [List.pairwise_append]
          refine ⟨ha, List.pairwise_singleton _ _, ?_⟩
          intro a hA b hB
          rw [List.mem_singleton] at hB
          subst hB
          exact ⟨hasN_false.1 hc.2.1 a hA, hasP_false.1 hc.2.2 a hA⟩
        rw [e1, e2, ih _ _ _ ha2]
        constructor
        · rintro ⟨h1, h2, h3⟩
          exact ⟨fun z hz => by rcases List.mem_cons.1 hz with rfl | hz; exact Or.inr hc.1; exact h1 z hz, h2, h3⟩
        · rintro ⟨h1, h2, h3⟩
          exact ⟨fun z hz => h1 z (List.mem_cons_of_mem _ hz), h2, h3⟩
      · have e1 : goE (x :: r) i acc = none := by rw [goE, stepE, if_neg hf, if_neg hc]
        rw [e1, e2]
        refine ⟨fun h => (by cases h), ?_⟩
        rintro ⟨h1, h2, _⟩
        refine absurd ⟨?_, ?_, ?_⟩ hc
        · exact (h1 x List.mem_cons_self).resolve_left hf
        · have := (List.pairwise_append.1 (List.pairwise_append.1 h2).1).2.2
          exact hasN_false.2 fun e he => (this e he _ (List.mem_singleton.2 rfl)).1
        · have := (List.pairwise_append.1 (List.pairwise_append.1 h2).1).2.2
          exact hasP_false.2 fun e he => (this e he _ (List.mem_singleton.2 rfl)).2
theorem listS_some {s : ByteArray} {l : List Ent} : listS s = some l ↔ sizeOk s = true ∧ Fine (slotsL s) ∧ (entsF (slotsL s) 0).Pairwise Apart ∧ l = entsF (slotsL s) 0 := by
  unfold listS
  by_cases h : sizeOk s = true
  · rw [if_pos h, goE_spec _ _ _ _ List.Pairwise.nil]
    simp only [List.nil_append]
    exact ⟨fun k => ⟨h, k⟩, fun k => k.2⟩
  · rw [if_neg h]
    exact ⟨fun k => (by cases k), fun k => absurd k.1 h⟩

theorem mem_ents {e : Ent} : ∀ {xs : List ByteArray} {i : Nat}, e ∈ entsF xs i ↔ ∃ k x, xs[k]? = some x ∧ x ≠ freeB ∧ e = mkE x (i + k) := by
  intro xs
  induction xs with
  | nil =>
    intro i
    simp [entsF]
  | cons x r ih =>
    intro i
    rw [entsF]
    split
    · rename_i hf
      rw [ih]
      constructor
      · rintro ⟨k, y, h1, h2, rfl⟩
        exact ⟨k + 1, y, by rw [List.getElem?_cons_succ]; exact h1, h2, by rw [show i + 1 + k = i + (k + 1) from by omega]⟩
      · rintro ⟨k, y, h1, h2, rfl⟩
        cases k with
        | zero => rw [List.getElem?_cons_zero] at h1; cases h1; exact absurd hf h2
        | succ k => exact ⟨k, y, by rw [List.getElem?_cons_succ] at h1; exact h1, h2, by rw [show i + 1 + k = i + (k + 1) from by omega]⟩
    · rename_i hf
      rw [List.mem_cons, ih]
      constructor
      · rintro (rfl | ⟨k, y, h1, h2, rfl⟩)
        · exact ⟨0, x, List.getElem?_cons_zero, hf, rfl⟩
        · exact ⟨k + 1, y, by rw [List.getElem?_cons_succ]; exact h1, h2, by rw [show i + 1 + k = i + (k + 1) from by omega]⟩
      · rintro ⟨k, y, h1, h2, rfl⟩
        cases k with
        | zero => rw [List.getElem?_cons_zero] at h1; cases h1; exact Or.inl rfl
        | succ k => exact Or.inr ⟨k, y, by rw [List.getElem?_cons_succ] at h1; exact h1, h2, by rw [show i + 1 + k = i + (k + 1) from by omega]⟩

def Uniq (xs : List ByteArray) : Prop := ∀ (i j : Nat) (x y : ByteArray), xs[i]? = some x → xs[j]? = some y → x ≠ freeB → y ≠ freeB → (readN x = readN y ∨ readP x = readP y) → i = j
theorem apart_uniq : ∀ {xs : List ByteArray} {i : Nat}, (entsF xs i).Pairwise Apart ↔ Uniq xs := by
  intro xs
  induction xs with
  | nil =>
    intro i
    refine ⟨fun _ i j x y h => ?_, fun _ => List.Pairwise.nil⟩
    rw [List.getElem?_nil] at h
    cases h
  | cons a r ih =>
    intro i
    rw [entsF]
    split
    · rename_i hf
      rw [ih]
      constructor
      · intro hu k j x y hx hy hfx hfy h
        cases k with
        | zero => rw [List.getElem?_cons_zero] at hx; cases hx; exact absurd hf hfx
        | succ k =>
          cases j with
          | zero => rw [List.getElem?_cons_zero] at hy; cases hy; exact absurd hf hfy
          | succ j =>
            rw [List.getElem?_cons_succ] at hx hy
            rw [hu k j x y hx hy hfx hfy h]
      · intro hu k j x y hx hy hfx hfy h
        have := hu (k + 1) (j + 1) x y (by rw [List.getElem?_cons_succ]; exact hx) (by rw [List.getElem?_cons_succ]; exact hy) hfx hfy h
        omega
    · rename_i hf
      rw [List.pairwise_cons, ih]
      constructor
      · rintro ⟨ha, hu⟩ k j x y hx hy hfx hfy h
        cases k with
        | zero =>
          cases j with
          | zero => rfl
          | succ j =>
            rw [List.getElem?_cons_zero] at hx
            cases hx
            rw [List.getElem?_cons_succ] at hy
            have := ha _ (mem_ents.2 ⟨j, y, hy, hfy, rfl⟩)
            rcases h with h | h
            · exact absurd h this.1
            · exact absurd h this.2
        | succ k =>
          cases j with
          | zero =>
            rw [List.getElem?_cons_zero] at hy
            cases hy
            rw [List.getElem?_cons_succ] at hx
            have := ha _ (mem_ents.2 ⟨k, x, hx, hfx, rfl⟩)
            rcases h with h | h
            · exact absurd h.symm this.1
            · exact absurd h.symm this.2
          | succ j =>
            rw [List.getElem?_cons_succ] at hx hy
            rw [hu k j x y hx hy hfx hfy h]
      · intro hu
        constructor
        · intro e he
          obtain ⟨k, y, hy, hfy, rfl⟩ := mem_ents.1 he
          constructor
          · intro h
            have := hu 0 (k + 1) a y List.getElem?_cons_zero (by rw [List.getElem?_cons_succ]; exact hy) hf hfy (Or.inl h)
            omega
          · intro h
            have := hu 0 (k + 1) a y List.getElem?_cons_zero (by rw [List.getElem?_cons_succ]; exact hy) hf hfy (Or.inr h)
            omega
        · intro k j x y hx hy hfx hfy h
          have := hu (k + 1) (j + 1) x y (by rw [List.getElem?_cons_succ]; exact hx) (by rw [List.getElem?_cons_succ]; exact hy) hfx hfy h
          omega
theorem ents_length : ∀ (xs : List ByteArray) (i : Nat), (entsF xs i).length = xs.countP fun x => decide (x ≠ freeB) := by
  intro xs
  induction xs with
  | nil => intro i; rfl
  | cons a r ih =>
    intro i
    rw [entsF, List.countP_cons]
    split
    · rename_i hf
      rw [ih]
      simp [hf]
    · rename_i hf
      rw [List.length_cons, ih]
      simp [hf]

/-- a slot in its place, or behind all -/
def putAt (xs : List ByteArray) (k : Nat) (y : ByteArray) : List ByteArray := if k < xs.length then xs.set k y else xs ++ [y]
theorem putAt_get {xs : List ByteArray} {k : Nat} {y : ByteArray} (hk : k ≤ xs.length) (j : Nat) : (putAt xs k y)[j]? = if j = k then some y else xs[j]? := by
  unfold putAt
  split
  · rename_i h
    rw [List.getElem?_set]
    by_cases e : j = k
    · subst e; simp [h]
    · rw [if_neg (Ne.symm e), if_neg e]
  · rename_i h
    have : k = xs.length := by omega
    subst this
    by_cases e : j = xs.length
    · subst e; simp
    · rw [if_neg e]
      by_cases e2 : j < xs.length
      · rw [List.getElem?_append_left e2]
      · rw [List.getElem?_eq_none (by simp; omega), List.getElem?_eq_none (by omega)]
theorem putAt_length {xs : List ByteArray} {k : Nat} {y : ByteArray} : (putAt xs k y).length = if k < xs.length then xs.length else xs.length + 1 := by
  unfold putAt
  split <;> simp
theorem withS_size {s x : ByteArray} {k : Nat} (hs : s.size % 64 = 0) (hx : x.size = 64) : (withS s k x).size = if k < s.size / 64 then s.size else s.size + 64 := by
  unfold withS
  by_cases h : s.size ≤ k * 64
  · rw [if_pos h, ByteArray.size_append, hx, if_neg (by omega)]
  · rw [if_neg h, if_pos (by omega)]
    simp only [ByteArray.size_append, ByteArray.size_extract, hx]
    omega
theorem slotsL_with {s x : ByteArray} {k : Nat} (hs : s.size % 64 = 0) (hx : x.size = 64) (hk : k ≤ s.size / 64) : slotsL (withS s k x) = putAt (slotsL s) k x := by
  have hl := slotsL_length s
  apply List.ext_getElem?
  intro j
  rw [putAt_get (by omega)]
  have hz := withS_size (k := k) hs hx
  by_cases hj : j < (withS s k x).size / 64
  · rw [List.getElem?_eq_getElem (by rw [slotsL_length]; exact hj), slotsL_get]
    by_cases e : j = k
    · subst e
      rw [if_pos rfl]
      congr 1
      unfold slotAt withS
      by_cases h : s.size ≤ j * 64
      · rw [if_pos h]
        exact ByteArray.extract_append_eq_right (by omega) (by omega)
      · rw [if_neg h, ByteArray.append_assoc, ByteArray.extract_append, ByteArray.extract_append]
        have z1 : (s.extract 0 (j * 64)).size = j * 64 := by rw [ByteArray.size_extract]; omega
        rw [z1, hx, show j * 64 + 64 - j * 64 = 64 from by omega]
        simp only [Nat.sub_self, Nat.zero_sub]
        rw [ByteArray.extract_same, ByteArray.append_empty]
        have : (s.extract 0 (j * 64)).extract (j * 64) (j * 64 + 64) = ByteArray.empty := ByteArray.extract_eq_empty_iff.2 (by rw [z1]; omega)
        rw [this, ByteArray.empty_append]
        have h2 := ByteArray.extract_zero_size (b := x)
        rw [hx] at h2
        exact h2
    · rw [if_neg e]
      have hj2 : j < s.size / 64 := by
        by_cases h : k < s.size / 64
        · rw [hz, if_pos h] at hj; exact hj
        · rw [hz, if_neg h] at hj; omega
      rw [List.getElem?_eq_getElem (by rw [slotsL_length]; exact hj2), slotsL_get]
      congr 1
      unfold slotAt withS
      by_cases h : s.size ≤ k * 64
      · rw [if_pos h, ByteArray.extract_append]
        have : x.extract (j * 64 - s.size) (j * 64 + 64 - s.size) = ByteArray.empty := ByteArray.extract_eq_empty_iff.2 (by omega)
        rw [this, ByteArray.append_empty]
      · rw [if_neg h, ByteArray.append_assoc, ByteArray.extract_append, ByteArray.extract_append]
        have z1 : (s.extract 0 (k * 64)).size = k * 64 := by rw [ByteArray.size_extract]; omega
        rw [z1, hx]
        rcases Nat.lt_or_gt_of_ne e with h2 | h2
        · have a1 : x.extract (j * 64 - k * 64) (j * 64 + 64 - k * 64) = ByteArray.empty := ByteArray.extract_eq_empty_iff.2 (by omega)
          have a2 : (s.extract (k * 64 + 64) s.size).extract (j * 64 - k * 64 - 64) (j * 64 + 64 - k * 64 - 64) = ByteArray.empty := ByteArray.extract_eq_empty_iff.2 (by omega)
          rw [a1, a2, ByteArray.append_empty, ByteArray.append_empty, ByteArray.extract_extract]
          congr 1 <;> omega
        · have a1 : (s.extract 0 (k * 64)).extract (j * 64) (j * 64 + 64) = ByteArray.empty := ByteArray.extract_eq_empty_iff.2 (by rw [z1]; omega)
          have a2 : x.extract (j * 64 - k * 64) (j * 64 + 64 - k * 64) = ByteArray.empty := ByteArray.extract_eq_empty_iff.2 (by omega)
          rw [a1, a2, ByteArray.empty_append, ByteArray.empty_append, ByteArray.extract_extract]
          congr 1 <;> omega
  · rw [List.getElem?_eq_none (by rw [slotsL_length]; omega)]
    by_cases h : k < s.size / 64
    · rw [hz, if_pos h] at hj
      rw [if_neg (by omega), List.getElem?_eq_none (by omega)]
    · rw [hz, if_neg h] at hj
      rw [if_neg (by omega), List.getElem?_eq_none (by omega)]
theorem mem_put {xs : List ByteArray} {k : Nat} {y : ByteArray} (hk : k ≤ xs.length) {e : Ent} : e ∈ entsF (putAt xs k y) 0 ↔ (y ≠ freeB ∧ e = mkE y k) ∨ (e ∈ entsF xs 0 ∧ e.slot ≠ k) := by
  rw [mem_ents, mem_ents]
  constructor
  · rintro ⟨j, x, h1, h2, rfl⟩
    rw [putAt_get hk] at h1
    by_cases e : j = k
    · rw [if_pos e] at h1
      cases h1
      exact Or.inl ⟨h2, by rw [Nat.zero_add, e]⟩
    · rw [if_neg e] at h1
      exact Or.inr ⟨⟨j, x, h1, h2, rfl⟩, by show 0 + j ≠ k; omega⟩
  · rintro (⟨h1, rfl⟩ | ⟨⟨j, x, h1, h2, rfl⟩, h3⟩)
    · exact ⟨k, y, by rw [putAt_get hk, if_pos rfl], h1, by rw [Nat.zero_add]⟩
    · have h3 : 0 + j ≠ k := h3
      exact ⟨j, x, by rw [putAt_get hk, if_neg (by omega)]; exact h1, h2, rfl⟩
theorem find_iff {l : List Ent} (h : l.Pairwise Apart) {n : ByteArray} {e : Ent} : findE l n = some e ↔ e ∈ l ∧ e.name = n := by
  unfold findE
  induction l with
  | nil => simp
  | cons a r ih =>
    rw [List.pairwise_cons] at h
    rw [List.find?_cons]
    by_cases hn : a.name = n
    · simp only [hn, decide_true]
      constructor
      · intro k; cases k; exact ⟨List.mem_cons_self, hn⟩
      · rintro ⟨h1, h2⟩
        rcases List.mem_cons.1 h1 with rfl | h1
        · rfl
        · exact absurd (hn.trans h2.symm) (h.1 e h1).1
    · simp only [hn, decide_false]
      rw [ih h.2, List.mem_cons]
      constructor
      · rintro ⟨h1, h2⟩; exact ⟨Or.inr h1, h2⟩
      · rintro ⟨h1 | h1, h2⟩
        · subst h1; exact absurd h2 hn
        · exact ⟨h1, h2⟩
theorem find_none {l : List Ent} {n : ByteArray} : findE l n = none ↔ ∀ e ∈ l, e.name ≠ n := by
  unfold findE; rw [List.find?_eq_none]; simp
theorem has_find {l : List Ent} {n : ByteArray} : hasN l n = (findE l n).isSome := by
  unfold hasN findE
  rw [List.isSome_find?]
end Go.Proofs.YtfkmfllhlhefdaaDoor
