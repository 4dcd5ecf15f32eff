/- Directories, plain: what is done to one slot. -/
import Derived.Test.YtfkmfllhlhefdaaDoorPDirList
namespace Go.Proofs.YtfkmfllhlhefdaaDoor

theorem cut_mid (a m b : List UInt8) (i j : Nat) (hi : a.length = i) (hj : i + m.length = j) : (bs (a ++ (m ++ b))).extract i j = bs m := by
  apply ByteArray.ext
  rw [ByteArray.data_extract]
  apply Array.ext'
  rw [Array.toList_extract]
  show (List.take (j - i) (List.drop i (a ++ (m ++ b)))) = m
  rw [← hi, List.drop_left, show j - a.length = m.length from by omega, List.take_left]
theorem readP_slot (p : Nat) (n : ByteArray) (hp : p < 18446744073709551616) : readP (slotB p n) = p := by
  have h := cut_mid [] (leBytes 8 p) (leBytes 1 n.size ++ (n.data.toList ++ zeros (55 - n.size))) 0 8 rfl (by rw [leBytes_length])
  rw [List.nil_append] at h
  unfold readP slotB slotL
  rw [h, bs_data, leNat_leBytes]
  omega
theorem readL_slot (p : Nat) (n : ByteArray) (hn : n.size ≤ 55) : readL (slotB p n) = n.size := by
  have h := cut_mid (leBytes 8 p) (leBytes 1 n.size) (n.data.toList ++ zeros (55 - n.size)) 8 9 (leBytes_length ..) (by rw [leBytes_length])
  unfold readL slotB slotL
  rw [h, bs_data, leNat_leBytes]
  omega
theorem readN_slot (p : Nat) (n : ByteArray) (hn : n.size ≤ 55) : readN (slotB p n) = n := by
  have h := cut_mid (leBytes 8 p ++ leBytes 1 n.size) n.data.toList (zeros (55 - n.size)) 9 (9 + n.size) (by rw [List.length_append, leBytes_length, leBytes_length]) (by rw [Array.length_toList]; rfl)
  unfold readN
  rw [readL_slot p n hn, show min n.size 55 = n.size from by omega]
  unfold slotB slotL
  rw [← List.append_assoc, h, bs_of]
theorem readOk_slot (p : Nat) (n : ByteArray) (hp : p < 18446744073709551616) (hp0 : p ≠ 0) (hn : nameOk n = true) : readOk (slotB p n) = true := by
  have hs := (nameOk_size hn).2
  unfold readOk
  rw [readP_slot p n hp, readN_slot p n hs, hn]
  simp [hp0]
theorem readP_free : readP freeB = 0 := by decide
theorem slot_ne_free (p : Nat) (n : ByteArray) (hp : p < 18446744073709551616) (hp0 : p ≠ 0) : slotB p n ≠ freeB := fun h => hp0 (by rw [← readP_slot p n hp, h, readP_free])
theorem readOk_ne {x : ByteArray} (h : readOk x = true) : x ≠ freeB := fun e => by
  subst e
  unfold readOk at h
  rw [readP_free] at h
  simp at h
theorem readOk_name {x : ByteArray} (h : readOk x = true) : nameOk (readN x) = true ∧ readP x ≠ 0 ∧ x = slotB (readP x) (readN x) := by
  unfold readOk at h
  simp only [Bool.and_eq_true, decide_eq_true_eq] at h
  exact ⟨h.2.1, h.1, h.2.2⟩
theorem readP_lt (x : ByteArray) : readP x < 18446744073709551616 := by
  have := leNat_lt (x.extract 0 8).data.toList
  have h2 : (x.extract 0 8).data.toList.length ≤ 8 := by
    rw [Array.length_toList]
    show (x.extract 0 8).size ≤ 8
    rw [ByteArray.size_extract]; omega
  have h3 := Nat.pow_le_pow_right (n := 2) (by decide) (Nat.mul_le_mul_left 8 h2)
  have h4 : (2 : Nat) ^ (8 * 8) = 18446744073709551616 := by decide
  unfold readP
  omega

structure IsDir (s : ByteArray) : Prop where
  size : s.size % 64 = 0 ∧ s.size ≤ 7168
  fine : Fine (slotsL s)
  uniq : Uniq (slotsL s)
def entsS (s : ByteArray) : List Ent := entsF (slotsL s) 0
theorem listS_iff {s : ByteArray} {l : List Ent} : listS s = some l ↔ IsDir s ∧ l = entsS s := by
  rw [listS_some, apart_uniq]
  have : sizeOk s = true ↔ (s.size % 64 = 0 ∧ s.size ≤ 7168) := by unfold sizeOk; rw [decide_eq_true_eq]
  rw [this]
  exact ⟨fun ⟨a, b, c, d⟩ => ⟨⟨a, b, c⟩, d⟩, fun ⟨⟨a, b, c⟩, d⟩ => ⟨a, b, c, d⟩⟩
theorem IsDir.list {s : ByteArray} (h : IsDir s) : listS s = some (entsS s) := listS_iff.2 ⟨h, rfl⟩
theorem listS_none {s : ByteArray} : listS s = none ↔ ¬ IsDir s := by
  constructor
  · intro h hd
    rw [hd.list] at h
    cases h
  · intro h
    cases e : listS s with
    | none => rfl
    | some l => exact absurd (listS_iff.1 e).1 h
theorem IsDir.apart {s : ByteArray} (h : IsDir s) : (entsS s).Pairwise Apart := apart_uniq.2 h.uniq
theorem IsDir.nslots {s : ByteArray} (h : IsDir s) : (slotsL s).length = s.size / 64 ∧ s.size / 64 ≤ 112 := by
  have := h.size
  exact ⟨slotsL_length s, by omega⟩
theorem IsDir.mem {s : ByteArray} (h : IsDir s) {e : Ent} (he : e ∈ entsS s) : e.slot < s.size / 64 ∧ nameOk e.name = true ∧ e.path ≠ 0 ∧ e.path < 18446744073709551616 ∧ (slotsL s)[e.slot]? = some (slotB e.path e.name) := by
  obtain ⟨k, x, h1, h2, rfl⟩ := mem_ents.1 he
  have hx := (h.fine x (List.mem_of_getElem? h1)).resolve_left h2
  obtain ⟨g1, g2, g3⟩ := readOk_name hx
  have hk : k < s.size / 64 := by
    rw [← slotsL_length]
    exact (List.getElem?_eq_some_iff.1 h1).1
  refine ⟨by show 0 + k < _; omega, g1, g2, readP_lt x, ?_⟩
  show (slotsL s)[0 + k]? = some (slotB (readP x) (readN x))
  rw [Nat.zero_add, ← g3, h1]
theorem findS_none {s n : ByteArray} (h : IsDir s) (hn : findE (entsS s) n = none) : findS s n = (-1, 0) := by
  unfold findS
  rw [h.list, Option.getD_some, hn]
theorem findS_some {s n : ByteArray} {e : Ent} (h : IsDir s) (hn : findE (entsS s) n = some e) : findS s n = ((e.slot : Int), e.path) := by
  unfold findS
  rw [h.list, Option.getD_some, hn]
theorem IsDir.find {s : ByteArray} (h : IsDir s) {e : Ent} (he : e ∈ entsS s) : findS s e.name = ((e.slot : Int), e.path) := findS_some h ((find_iff h.apart).2 ⟨he, rfl⟩)

/-- one slot is set -/
structure SetOk (s : ByteArray) (k : Nat) (y : ByteArray) : Prop where
  le : k ≤ s.size / 64
  lt : k < 112
  size : y.size = 64
  form : y = freeB ∨ readOk y = true
  apart : y ≠ freeB → ∀ e ∈ entsS s, e.slot ≠ k → e.name ≠ readN y ∧ e.path ≠ readP y
theorem IsDir.put {s y : ByteArray} {k : Nat} (h : IsDir s) (o : SetOk s k y) : IsDir (withS s k y) := by
  have hz := withS_size (k := k) h.size.1 o.size
  have hL := slotsL_with h.size.1 o.size o.le
  have hl := slotsL_length s
  have hk : k ≤ (slotsL s).length := by rw [hl]; exact o.le
  have hs := h.size
  have ho := o.le
  have hlt := o.lt
  refine ⟨?_, ?_, ?_⟩
  · rw [hz]
    split <;> omega
  · rw [hL]
    intro x hx
    obtain ⟨j, hj⟩ := List.mem_iff_getElem?.1 hx
    rw [putAt_get hk] at hj
    split at hj
    · cases hj; exact o.form
    · exact h.fine x (List.mem_of_getElem? hj)
  · rw [hL]
    intro i j x z hx hz' hfx hfz hxz
    rw [putAt_get hk] at hx hz'
    by_cases hi : i = k
    · rw [if_pos hi] at hx
      cases hx
      by_cases hj : j = k
      · omega
      · rw [if_neg hj] at hz'
        have hm : mkE z j ∈ entsS s := mem_ents.2 ⟨j, z, hz', hfz, by rw [Nat.zero_add]⟩
        have := o.apart hfx _ hm hj
        rcases hxz with e | e
        · exact absurd e.symm this.1
        · exact absurd e.symm this.2
    · rw [if_neg hi] at hx
      by_cases hj : j = k
      · rw [if_pos hj] at hz'
        cases hz'
        have hm : mkE x i ∈ entsS s := mem_ents.2 ⟨i, x, hx, hfx, by rw [Nat.zero_add]⟩
        have := o.apart hfz _ hm hi
        rcases hxz with e | e
        · exact absurd e this.1
        · exact absurd e this.2
      · rw [if_neg hj] at hz'
        exact h.uniq i j x z hx hz' hfx hfz hxz
theorem mem_with {s y : ByteArray} {k : Nat} (h : IsDir s) (o : SetOk s k y) {e : Ent} : e ∈ entsS (withS s k y) ↔ (y ≠ freeB ∧ e = mkE y k) ∨ (e ∈ entsS s ∧ e.slot ≠ k) := by
  unfold entsS
  rw [slotsL_with h.size.1 o.size o.le]
  exact mem_put (by rw [slotsL_length]; exact o.le)
theorem count_with {s y : ByteArray} {k : Nat} (h : IsDir s) (o : SetOk s k y) : (entsS (withS s k y)).length + (if (slotsL s)[k]?.getD freeB ≠ freeB then 1 else 0) = (entsS s).length + (if y ≠ freeB then 1 else 0) := by
  unfold entsS
  rw [slotsL_with h.size.1 o.size o.le, ents_length, ents_length]
  unfold putAt
  split
  · rename_i hk
    rw [List.countP_set hk, List.getElem?_eq_getElem hk, Option.getD_some]
    by_cases hx : (slotsL s)[k] = freeB
    · simp [hx]
    · have hpos : 0 < (slotsL s).countP fun x => decide (x ≠ freeB) := List.countP_pos_iff.2 ⟨_, List.getElem_mem hk, by simp [hx]⟩
      obtain ⟨c, hc⟩ : ∃ c, (slotsL s).countP (fun x => decide (x ≠ freeB)) = c := ⟨_, rfl⟩
      rw [hc] at hpos ⊢
      by_cases hy : y = freeB
      · simp [hx, hy]; omega
      · simp [hx, hy]; omega
  · rename_i hk
    rw [List.countP_append, List.getElem?_eq_none (by omega), Option.getD_none]
    simp [List.countP_cons]
end Go.Proofs.YtfkmfllhlhefdaaDoor
