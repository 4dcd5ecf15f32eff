/- Directories, plain: other names in the same slots. -/
import Derived.Test.YtfkmfllhlhefdaaDoorPDirLaw
namespace Go.Proofs.YtfkmfllhlhefdaaDoor

def nameN (i : Nat) : ByteArray := bs [110, UInt8.ofNat (97 + i / 26 % 26), UInt8.ofNat (97 + i % 26)]
theorem u8_natN {n : Nat} (h : n < 256) : (UInt8.ofNat n).toNat = n := by rw [UInt8.toNat_ofNat']; omega
theorem nameN_ok (i : Nat) : nameOk (nameN i) = true := by
  refine nameOk_low (by show 0 < 3; decide) (by show 3 ≤ 55; decide) ?_
  intro b hb
  have hb : b ∈ [110, UInt8.ofNat (97 + i / 26 % 26), UInt8.ofNat (97 + i % 26)] := hb
  simp only [List.mem_cons, List.not_mem_nil, or_false] at hb
  rcases hb with rfl | rfl | rfl
  · decide
  · rw [u8_natN (by omega)]; omega
  · rw [u8_natN (by omega)]; omega
theorem nameN_inj {i j : Nat} (hi : i < 112) (hj : j < 112) (h : nameN i = nameN j) : i = j := by
  have h := congrArg (fun x : ByteArray => x.data.toList) h
  simp only [nameN, bs_data] at h
  injection h with _ h
  injection h with h1 h
  injection h with h2 _
  have h1 := congrArg UInt8.toNat h1
  have h2 := congrArg UInt8.toNat h2
  rw [u8_natN (by omega), u8_natN (by omega)] at h1 h2
  omega
/-- the first i entries' slots, other names in them -/
def shapeS (n : Nat) (l : List Ent) : Nat → ByteArray
  | 0 => bs (zeros n)
  | i + 1 => withS (shapeS n l i) ((l.map Ent.slot).getD i 0) (slotB (1000 + i) (nameN i))
theorem zeros_slot {n i : Nat} (h : i * 64 + 64 ≤ n) : slotAt (bs (zeros n)) i = freeB := by
  unfold slotAt freeB
  apply ByteArray.ext
  rw [ByteArray.data_extract]
  apply Array.ext'
  rw [Array.toList_extract]
  show (List.take (i * 64 + 64 - i * 64) (List.drop (i * 64) (zeros n))) = zeros 64
  unfold zeros
  rw [List.drop_replicate, List.take_replicate]
  congr 1
  omega
theorem zeros_free {n : Nat} (x : ByteArray) (h : x ∈ slotsL (bs (zeros n))) : x = freeB := by
  obtain ⟨i, hi, rfl⟩ := List.mem_iff_getElem.1 h
  rw [slotsL_get]
  refine zeros_slot ?_
  rw [slotsL_length, bs_size, zeros_length] at hi
  omega
structure ShapeOk (s : ByteArray) (i : Nat) (t : ByteArray) : Prop where
  size : t.size = s.size
  dir : IsDir t
  mem : ∀ e, e ∈ entsS t ↔ ∃ j g, j < i ∧ (entsS s)[j]? = some g ∧ e = ⟨g.slot, 1000 + j, nameN j⟩
theorem ents_len {s : ByteArray} (_h : IsDir s) : (entsS s).length ≤ s.size / 64 := by
  have := ents_length (slotsL s) 0
  have h2 := List.countP_le_length (p := fun x => decide (x ≠ freeB)) (l := slotsL s)
  rw [slotsL_length] at h2
  show (entsF (slotsL s) 0).length ≤ _
  omega
theorem shape_ok {s : ByteArray} (h : IsDir s) : ∀ i, i ≤ (entsS s).length → ShapeOk s i (shapeS s.size (entsS s) i) := by
  have hlen := ents_len h
  have hn := h.nslots.2
  intro i
  induction i with
  | zero =>
    intro _
    have hz : (shapeS s.size (entsS s) 0).size = s.size := by show (bs (zeros s.size)).size = _; rw [bs_size, zeros_length]
    refine ⟨hz, ⟨by rw [hz]; exact h.size, fun x hx => Or.inl (zeros_free x hx), fun i j x y hx hy hfx => absurd (zeros_free x (List.mem_of_getElem? hx)) hfx⟩, fun e => ⟨fun he => ?_, fun ⟨j, g, hj, _⟩ => (by omega)⟩⟩
    obtain ⟨k, x, h1, h2, _⟩ := mem_ents.1 he
    exact absurd (zeros_free x (List.mem_of_getElem? h1)) h2
  | succ i ih =>
    intro hi
    obtain ⟨hs, hd, hm⟩ := ih (by omega)
    obtain ⟨g, hg⟩ : ∃ g, (entsS s)[i]? = some g := ⟨_, List.getElem?_eq_getElem (by omega)⟩
    have hgm : g ∈ entsS s := List.mem_of_getElem? hg
    have hgs := (h.mem hgm).1
    have e1 : shapeS s.size (entsS s) (i + 1) = withS (shapeS s.size (entsS s) i) g.slot (slotB (1000 + i) (nameN i)) := by
      rw [shapeS, List.getD_eq_getElem?_getD, List.getElem?_map, hg]
      rfl
    rw [e1]
    generalize shapeS s.size (entsS s) i = t at *
    have hnm := nameN_ok i
    have hne := slot_ne_free (1000 + i) (nameN i) (by omega) (by omega)
    have o : SetOk t g.slot (slotB (1000 + i) (nameN i)) := {
      le := by rw [hs]; omega
      lt := by omega
      size := slotB_size (nameOk_size hnm).2
      form := Or.inr (readOk_slot _ _ (by omega) (by omega) hnm)
      apart := fun _ e he _ => by
        obtain ⟨j, g2, hj, hg2, rfl⟩ := (hm e).1 he
        rw [readN_slot _ _ (nameOk_size hnm).2, readP_slot _ _ (by omega)]
        exact ⟨fun hx => by have := nameN_inj (by omega) (by omega) hx; omega, by show 1000 + j ≠ 1000 + i; omega⟩ }
    have hmk : mkE (slotB (1000 + i) (nameN i)) g.slot = ⟨g.slot, 1000 + i, nameN i⟩ := by unfold mkE; rw [readP_slot _ _ (by omega), readN_slot _ _ (nameOk_size hnm).2]
    refine ⟨by rw [withS_size hd.size.1 o.size, if_pos (by rw [hs]; exact hgs), hs], hd.put o, fun e => ?_⟩
    rw [mem_with hd o, hmk, hm]
    constructor
    · rintro (⟨_, rfl⟩ | ⟨⟨j, g2, hj, hg2, rfl⟩, _⟩)
      · exact ⟨i, g, by omega, hg, rfl⟩
      · exact ⟨j, g2, by omega, hg2, rfl⟩
    · rintro ⟨j, g2, hj, hg2, rfl⟩
      by_cases hji : j = i
      · subst hji
        rw [hg] at hg2
        cases hg2
        exact Or.inl ⟨hne, rfl⟩
      · refine Or.inr ⟨⟨j, g2, by omega, hg2, rfl⟩, fun hx => hji ?_⟩
        have hx : g2.slot = g.slot := hx
        have := IsDir.slot_inj (List.mem_of_getElem? hg2) hgm hx
        subst this
        have hnd : (entsS s).Pairwise Apart := h.apart
        rw [List.pairwise_iff_getElem] at hnd
        obtain ⟨hj1, hj2⟩ := List.getElem?_eq_some_iff.1 hg2
        obtain ⟨hi1, hi2⟩ := List.getElem?_eq_some_iff.1 hg
        rcases Nat.lt_or_gt_of_ne hji with hlt | hlt
        · have := hnd j i hj1 hi1 hlt
          rw [hj2, hi2] at this
          exact absurd rfl this.1
        · have := hnd i j hi1 hj1 hlt
          rw [hj2, hi2] at this
          exact absurd rfl this.1
theorem free_by {a b : ByteArray} (hl : a.size = b.size) (h : ∀ k, k < a.size / 64 → ((∃ e, e ∈ entsS a ∧ e.slot = k) ↔ ∃ e, e ∈ entsS b ∧ e.slot = k)) : freeAt a = freeAt b := by
  have key : ∀ (s : ByteArray) k, (hk : k < (slotsL s).length) → ((slotsL s)[k] ≠ freeB ↔ ∃ e, e ∈ entsS s ∧ e.slot = k) := by
    intro s k hk
    constructor
    · intro hf
      exact ⟨mkE (slotsL s)[k] (0 + k), mem_ents.2 ⟨k, _, List.getElem?_eq_getElem hk, hf, rfl⟩, by show 0 + k = k; omega⟩
    · rintro ⟨e, he, rfl⟩
      obtain ⟨j, x, h1, h2, rfl⟩ := mem_ents.1 he
      have : (mkE x (0 + j)).slot = j := by show 0 + j = j; omega
      obtain ⟨hj, hx⟩ := List.getElem?_eq_some_iff.1 h1
      simp only [this]
      rw [hx]
      exact h2
  have : (slotsL a).map (fun x => decide (x = freeB)) = (slotsL b).map (fun x => decide (x = freeB)) := by
    apply List.ext_getElem
    · rw [List.length_map, List.length_map, slotsL_length, slotsL_length, hl]
    · intro k h1 h2
      rw [List.length_map] at h1 h2
      rw [List.getElem_map, List.getElem_map]
      have := (key a k h1).trans ((h k (by rw [← slotsL_length]; exact h1)).trans (key b k h2).symm)
      congr 1
      rw [eq_iff_iff]
      exact Decidable.not_iff_not.1 this
  unfold freeAt
  have e := congrArg (fun l => l.findIdx id) this
  simp only [List.findIdx_map] at e
  exact e
theorem shape_free {s t : ByteArray} (ht : ShapeOk s (entsS s).length t) : freeAt t = freeAt s := by
  refine free_by ht.size fun k _ => ⟨fun ⟨e, he, hk⟩ => ?_, fun ⟨e, he, hk⟩ => ?_⟩
  · obtain ⟨j, g, hj, hg, rfl⟩ := (ht.mem e).1 he
    exact ⟨g, List.mem_of_getElem? hg, hk⟩
  · obtain ⟨j, hj, hje⟩ := List.mem_iff_getElem.1 he
    exact ⟨⟨e.slot, 1000 + j, nameN j⟩, (ht.mem _).2 ⟨j, e, hj, by rw [List.getElem?_eq_getElem hj, hje], rfl⟩, hk⟩
/-- the same slot, the same size, and never full -/
theorem shape_law {s t n o : ByteArray} {p q : Nat} (hz : s.size ≤ 4480) (ht : ShapeOk s (entsS s).length t) :
    ((putS s n p).2.2 = 0 → (putS t o q).2.2 = 0 → (putS s n p).2.1 = (putS t o q).2.1 ∧ ((p < 18446744073709551616 ∧ q < 18446744073709551616) → (putS s n p).1.size = (putS t o q).1.size)) ∧ (putS s n p).2.2 ≠ 6 ∧ (putS t o q).2.2 ≠ 6 := by
  have hf := shape_free ht
  have hle := freeAt_le s
  have no6 : ∀ (a n : ByteArray) (p : Nat), freeAt a < 112 → (putS a n p).2.2 ≠ 6 := by
    intro a n p hfa
    unfold putS
    split
    · decide
    · split
      · decide
      · split
        · decide
        · split
          · decide
          · rw [if_neg (by omega)]
            exact fun h => (by cases h)
  refine ⟨fun h1 h2 => ?_, no6 _ _ _ (by omega), no6 _ _ _ (by omega)⟩
  obtain ⟨d1, n1, _, _, f1, e1⟩ := put_ok h1
  obtain ⟨d2, n2, _, _, f2, e2⟩ := put_ok h2
  rw [e1, e2]
  refine ⟨hf.symm, fun _ => ?_⟩
  rw [withS_size d1.size.1 (slotB_size (nameOk_size n1).2), withS_size d2.size.1 (slotB_size (nameOk_size n2).2), hf, ht.size]
end Go.Proofs.YtfkmfllhlhefdaaDoor
