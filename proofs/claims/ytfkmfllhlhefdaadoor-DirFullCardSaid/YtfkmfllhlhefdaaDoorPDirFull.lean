/- Directories, plain: as many names as may be. -/
import Derived.Test.YtfkmfllhlhefdaaDoorPDirLaw
namespace Go.Proofs.YtfkmfllhlhefdaaDoor

def nameF (i : Nat) : ByteArray := bs [102, UInt8.ofNat (97 + i / 676), UInt8.ofNat (97 + i / 26 % 26), UInt8.ofNat (97 + i % 26)]
def fullS : Nat → ByteArray
  | 0 => ByteArray.empty
  | k + 1 => fullS k ++ slotB (k + 1) (nameF k)
theorem u8_nat {n : Nat} (h : n < 256) : (UInt8.ofNat n).toNat = n := by rw [UInt8.toNat_ofNat']; omega
theorem nameF_ok {i : Nat} (h : i < 112) : nameOk (nameF i) = true := by
  refine nameOk_low (by show 0 < 4; decide) (by show 4 ≤ 55; decide) ?_
  intro b hb
  have hb : b ∈ [102, UInt8.ofNat (97 + i / 676), UInt8.ofNat (97 + i / 26 % 26), UInt8.ofNat (97 + i % 26)] := hb
  simp only [List.mem_cons, List.not_mem_nil, or_false] at hb
  rcases hb with rfl | rfl | rfl | rfl
  · decide
  · rw [u8_nat (by omega)]; omega
  · rw [u8_nat (by omega)]; omega
  · rw [u8_nat (by omega)]; omega
theorem nameF_inj {i j : Nat} (hi : i < 112) (hj : j < 112) (h : nameF i = nameF j) : i = j := by
  have h := congrArg (fun x : ByteArray => x.data.toList) h
  simp only [nameF, bs_data] at h
  injection h with _ h
  injection h with _ h
  injection h with h1 h
  injection h with h2 _
  have h1 := congrArg UInt8.toNat h1
  have h2 := congrArg UInt8.toNat h2
  rw [u8_nat (by omega), u8_nat (by omega)] at h1 h2
  omega
theorem nameF_ne {i : Nat} {s : ByteArray} (h : s.data.toList.head? ≠ some 102) : nameF i ≠ s := by
  rintro rfl
  exact h rfl
structure FullOk (k : Nat) : Prop where
  size : (fullS k).size = 64 * k
  dir : IsDir (fullS k)
  free : freeAt (fullS k) = k
  mem : ∀ e, e ∈ entsS (fullS k) ↔ ∃ i, i < k ∧ e = ⟨i, i + 1, nameF i⟩
  count : countS (fullS k) = k
theorem full_ok : ∀ k, k ≤ 112 → FullOk k := by
  intro k
  induction k with
  | zero =>
    intro _
    exact ⟨rfl, isDir_empty, free_empty, fun e => ⟨fun h => (by rw [show fullS 0 = ByteArray.empty from rfl, ents_empty] at h; cases h), fun ⟨i, h, _⟩ => (by omega)⟩, rfl⟩
  | succ k ih =>
    intro hk
    obtain ⟨hs, hd, hf, hm, hc⟩ := ih (by omega)
    have hn := nameF_ok (i := k) (by omega)
    have hz := slotB_size (p := k + 1) (nameOk_size hn).2
    have e1 : fullS (k + 1) = withS (fullS k) (freeAt (fullS k)) (slotB (k + 1) (nameF k)) := by
      rw [hf]
      unfold withS
      rw [if_pos (by omega)]
      rfl
    have ha : ∀ e ∈ entsS (fullS k), e.path ≠ k + 1 ∧ e.name ≠ nameF k := by
      intro e he
      obtain ⟨i, hi, rfl⟩ := (hm e).1 he
      exact ⟨by show i + 1 ≠ k + 1; omega, fun h => by have := nameF_inj (by omega) (by omega) h; omega⟩
    have hne := slot_ne_free (k + 1) (nameF k) (by omega) (by omega)
    have o := put_set (s := fullS k) (n := nameF k) (p := k + 1) (by omega) hn (by omega) ha (by omega)
    have hsn := freeAt_snoc hd.size.1 hz hne (by rw [hf, hs]; omega)
    have hct := count_with hd o
    rw [if_neg (by rw [freeAt_free]; simp), if_pos hne] at hct
    have hd2 := hd.put o
    rw [hd.count] at hc
    rw [← e1] at hsn hct hd2
    refine ⟨by rw [hsn.2, hs]; omega, hd2, by rw [hsn.1, hs]; omega, fun e => ?_, by rw [hd2.count]; omega⟩
    rw [e1, mem_with hd o, hf, hm]
    have hmk : mkE (slotB (k + 1) (nameF k)) k = ⟨k, k + 1, nameF k⟩ := by unfold mkE; rw [readP_slot _ _ (by omega), readN_slot _ _ (nameOk_size hn).2]
    rw [hmk]
    constructor
    · rintro (⟨_, rfl⟩ | ⟨⟨i, hi, rfl⟩, _⟩)
      · exact ⟨k, by omega, rfl⟩
      · exact ⟨i, by omega, rfl⟩
    · rintro ⟨i, hi, rfl⟩
      by_cases h : i = k
      · subst h; exact Or.inl ⟨hne, rfl⟩
      · exact Or.inr ⟨⟨i, by omega, rfl⟩, h⟩
def moreB : ByteArray := ⟨#[109, 111, 114, 101]⟩
theorem more_ok : nameOk moreB = true := nameOk_low (by decide) (by decide) (by decide)
theorem full_put {k : Nat} (hk : k < 112) : ∃ t, putS (fullS k) moreB 1099511627776 = (t, k, 0) ∧ t.size = (fullS k).size + 64 := by
  obtain ⟨hs, hd, hf, hm, hc⟩ := full_ok k (by omega)
  have e := put_intro (n := moreB) (p := 1099511627776) hd more_ok (by decide) (fun e he => by
    obtain ⟨i, hi, rfl⟩ := (hm e).1 he
    exact ⟨by show i + 1 ≠ _; omega, nameF_ne (by decide)⟩) (by omega)
  rw [e, hf]
  refine ⟨_, rfl, ?_⟩
  rw [withS_size hd.size.1 (slotB_size (nameOk_size more_ok).2), if_neg (by omega)]
/-- what is full -/
structure FullIs (s : ByteArray) : Prop where
  size : s.size = 7168
  dir : IsDir s
  free : freeAt s = 112
  mem : ∀ e, e ∈ entsS s ↔ ∃ i, i < 112 ∧ e = ⟨i, i + 1, nameF i⟩
theorem full_is {k : Nat} (hk : k = 112) : FullIs (fullS k) := by
  obtain ⟨hs, hd, hf, hm, hc⟩ := full_ok k (by omega)
  generalize fullS k = s at *
  subst hk
  exact ⟨hs, hd, hf, hm⟩
theorem full_end {s : ByteArray} (hk : FullIs s) : putS s moreB 1099511627776 = (ByteArray.empty, 0, 6) := by
  obtain ⟨hs, hd, hf, hm⟩ := hk
  unfold putS
  rw [hd.list]
  simp only
  have h1 : hasP (entsS s) 1099511627776 = false := hasP_false.2 fun e he => by
    obtain ⟨i, hi, rfl⟩ := (hm e).1 he
    show i + 1 ≠ _
    omega
  have h2 : hasN (entsS s) moreB = false := hasN_false.2 fun e he => by
    obtain ⟨i, hi, rfl⟩ := (hm e).1 he
    exact nameF_ne (by decide)
  rw [more_ok, h1, h2, hf]
  simp
def faadB : ByteArray := ⟨#[102, 97, 97, 100]⟩
theorem full_drop {s : ByteArray} (hk : FullIs s) : ∃ u v, dropS s faadB = (u, 3, 0) ∧ putS u moreB 1099511627776 = (v, 3, 0) ∧ v.size = 7168 ∧ u.size = 7168 := by
  obtain ⟨hs, hd, hf, hm⟩ := hk
  have hme : (⟨3, 4, faadB⟩ : Ent) ∈ entsS s := (hm _).2 ⟨3, by omega, by rfl⟩
  have e3 : dropS s faadB = (withS s 3 freeB, 3, 0) := by
    unfold dropS
    rw [hd.list]
    simp only
    rw [(find_iff hd.apart).2 ⟨hme, rfl⟩]
  have o : SetOk s 3 freeB := free_set (by rw [hs]; decide) hd
  have hd2 := hd.put o
  have hz2 : (withS s 3 freeB).size = 7168 := by rw [withS_size hd.size.1 freeB_size, if_pos (by rw [hs]; decide), hs]
  have hsl := slotsL_with (k := 3) hd.size.1 freeB_size (by rw [hs]; decide)
  have hl : (slotsL s).length = 112 := by rw [slotsL_length, hs]
  have hf2 : freeAt (withS s 3 freeB) = 3 := by
    unfold freeAt
    rw [hsl]
    have hl2 : (putAt (slotsL s) 3 freeB).length = 112 := by rw [putAt_length, if_pos (by rw [hl]; decide), hl]
    rw [List.findIdx_eq (by rw [hl2]; decide)]
    constructor
    · have := putAt_get (xs := slotsL s) (k := 3) (y := freeB) (by omega) 3
      rw [if_pos rfl] at this
      rw [(List.getElem?_eq_some_iff.1 this).2]
      simp
    · intro j hj
      have h1 := putAt_get (xs := slotsL s) (k := 3) (y := freeB) (by omega) j
      rw [if_neg (by omega)] at h1
      have h2 := (hd.mem ((hm ⟨j, j + 1, nameF j⟩).2 ⟨j, by omega, rfl⟩)).2.2.2.2
      simp only at h2
      rw [h2] at h1
      rw [(List.getElem?_eq_some_iff.1 h1).2]
      exact decide_eq_false (slot_ne_free _ _ (by omega) (by omega))
  have e4 := put_intro (n := moreB) (p := 1099511627776) hd2 more_ok (by decide) (fun e he => by
    rcases (mem_with hd o).1 he with ⟨h, _⟩ | ⟨h, _⟩
    · exact absurd rfl h
    · obtain ⟨i, hi, rfl⟩ := (hm e).1 h
      exact ⟨by show i + 1 ≠ _; omega, nameF_ne (by decide)⟩) (by omega)
  rw [hf2] at e4
  refine ⟨_, _, e3, e4, ?_, hz2⟩
  rw [withS_size hd2.size.1 (slotB_size (nameOk_size more_ok).2), if_pos (by rw [hz2]; decide), hz2]
theorem full_over {s : ByteArray} (hk : FullIs s) : listS (s ++ s.extract 0 64) = none := by
  have hs := hk.size
  rw [listS_none]
  intro h
  have := h.size.2
  rw [ByteArray.size_append, ByteArray.size_extract, hs] at this
  omega
end Go.Proofs.YtfkmfllhlhefdaaDoor
