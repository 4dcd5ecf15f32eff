/- Directories, plain: put, drop, rename keep all others. -/
import Derived.Test.YtfkmfllhlhefdaaDoorPDirKeep
namespace Go.Proofs.YtfkmfllhlhefdaaDoor

def keptS (s : ByteArray) (l : List Ent) (but : ByteArray) : Bool := l.all fun e => decide (e.name = but) || decide (findS s e.name = ((e.slot : Int), e.path))
def countS (s : ByteArray) : Nat := ((listS s).getD []).length
theorem IsDir.count {s : ByteArray} (h : IsDir s) : countS s = (entsS s).length := by unfold countS; rw [h.list, Option.getD_some]
theorem IsDir.slot_inj {s : ByteArray} {e f : Ent} (he : e ∈ entsS s) (hf : f ∈ entsS s) (h : e.slot = f.slot) : e = f := by
  obtain ⟨k, x, h1, h2, rfl⟩ := mem_ents.1 he
  obtain ⟨j, y, g1, g2, rfl⟩ := mem_ents.1 hf
  have h : 0 + k = 0 + j := h
  have : k = j := by omega
  subst this
  rw [h1] at g1
  cases g1
  rfl
theorem IsDir.path_inj {s : ByteArray} (hd : IsDir s) {e f : Ent} (he : e ∈ entsS s) (hf : f ∈ entsS s) (h : e.path = f.path ∨ e.name = f.name) : e = f := by
  refine IsDir.slot_inj he hf ?_
  obtain ⟨k, x, h1, h2, rfl⟩ := mem_ents.1 he
  obtain ⟨j, y, g1, g2, rfl⟩ := mem_ents.1 hf
  have := hd.uniq k j x y h1 g1 h2 g2 (h.symm.imp id id)
  show 0 + k = 0 + j
  omega
theorem kept_of {s t : ByteArray} {but : ByteArray} (ht : IsDir t) (h : ∀ e ∈ entsS s, e.name ≠ but → e ∈ entsS t) : keptS t (entsS s) but = true := by
  unfold keptS
  rw [List.all_eq_true]
  intro e he
  by_cases hn : e.name = but
  · simp [hn]
  · rw [ht.find (h e he hn)]; simp

theorem freeAt_le (s : ByteArray) : freeAt s ≤ s.size / 64 := by
  rw [← slotsL_length]
  exact List.findIdx_le_length
theorem freeAt_free (s : ByteArray) : (slotsL s)[freeAt s]?.getD freeB = freeB := by
  by_cases h : freeAt s < (slotsL s).length
  · have := List.findIdx_getElem (xs := slotsL s) (p := fun x => decide (x = freeB)) (w := h)
    simp only [decide_eq_true_eq] at this
    rw [List.getElem?_eq_getElem h, Option.getD_some]
    exact this
  · rw [List.getElem?_eq_none (by omega), Option.getD_none]
theorem put_ok {s n : ByteArray} {p : Nat} (h : (putS s n p).2.2 = 0) :
    IsDir s ∧ nameOk n = true ∧ p ≠ 0 ∧ (∀ e ∈ entsS s, e.path ≠ p ∧ e.name ≠ n) ∧ freeAt s < 112 ∧ putS s n p = (withS s (freeAt s) (slotB p n), freeAt s, 0) := by
  unfold putS at h ⊢
  cases hl : listS s with
  | none => rw [hl] at h; cases h
  | some l =>
    rw [hl] at h
    obtain ⟨hd, rfl⟩ := listS_iff.1 hl
    simp only at h ⊢
    split at h
    · cases h
    rename_i h1
    split at h
    · cases h
    rename_i h2
    split at h
    · cases h
    rename_i h3
    split at h
    · cases h
    rename_i h4
    rw [if_neg h1, if_neg h2, if_neg h3, if_neg h4]
    have h2a : p ≠ 0 := fun e => h2 (Or.inl e)
    have h2b := hasP_false.1 (Bool.eq_false_iff.2 fun e => h2 (Or.inr e))
    have h3b := hasN_false.1 (Bool.eq_false_iff.2 h3)
    exact ⟨hd, by simpa using h1, h2a, fun e he => ⟨h2b e he, h3b e he⟩, by omega, rfl⟩
theorem put_set {s n : ByteArray} {p : Nat} (hp : p < 18446744073709551616) (hn : nameOk n = true) (hp0 : p ≠ 0) (ha : ∀ e ∈ entsS s, e.path ≠ p ∧ e.name ≠ n) (hf : freeAt s < 112) : SetOk s (freeAt s) (slotB p n) where
  le := freeAt_le s
  lt := hf
  size := slotB_size (nameOk_size hn).2
  form := Or.inr (readOk_slot p n hp hp0 hn)
  apart := fun _ e he _ => by
    rw [readN_slot p n (nameOk_size hn).2, readP_slot p n hp]
    exact ⟨(ha e he).2, (ha e he).1⟩
theorem free_set {s : ByteArray} {k : Nat} (hk : k < s.size / 64) (h : IsDir s) : SetOk s k freeB where
  le := by omega
  lt := by have := h.nslots; omega
  size := freeB_size
  form := Or.inl rfl
  apart := fun h => absurd rfl h
theorem keep_put {s n : ByteArray} {p : Nat} (hp : p < 18446744073709551616) (h : (putS s n p).2.2 = 0) :
    IsDir (putS s n p).1 ∧ findS (putS s n p).1 n = (((putS s n p).2.1 : Int), p) ∧ countS (putS s n p).1 = countS s + 1 ∧ keptS (putS s n p).1 (entsS s) ByteArray.empty = true ∧
    (dropS (putS s n p).1 n).2 = ((putS s n p).2.1, 0) ∧ countS (dropS (putS s n p).1 n).1 = countS s ∧ (dropS (putS s n p).1 n).1.size = (putS s n p).1.size := by
  obtain ⟨hd, hn, hp0, ha, hf, e⟩ := put_ok h
  rw [e]
  simp only
  have o := put_set hp hn hp0 ha hf
  have hne := slot_ne_free p n hp hp0
  have hd2 := hd.put o
  have hm : mkE (slotB p n) (freeAt s) ∈ entsS (withS s (freeAt s) (slotB p n)) := (mem_with hd o).2 (Or.inl ⟨hne, rfl⟩)
  have hm2 : mkE (slotB p n) (freeAt s) = ⟨freeAt s, p, n⟩ := by unfold mkE; rw [readN_slot p n (nameOk_size hn).2, readP_slot p n hp]
  rw [hm2] at hm
  have hc := count_with hd o
  rw [if_neg (by rw [freeAt_free]; simp), if_pos hne] at hc
  have hfind : findE (entsS (withS s (freeAt s) (slotB p n))) n = some ⟨freeAt s, p, n⟩ := (find_iff hd2.apart).2 ⟨hm, rfl⟩
  have hdrop : dropS (withS s (freeAt s) (slotB p n)) n = (withS (withS s (freeAt s) (slotB p n)) (freeAt s) freeB, freeAt s, 0) := by
    unfold dropS
    rw [hd2.list]
    simp only
    rw [hfind]
  have hlt := (hd2.mem hm).1
  have o2 : SetOk (withS s (freeAt s) (slotB p n)) (freeAt s) freeB := free_set hlt hd2
  have hc2 := count_with hd2 o2
  have hx := (hd2.mem hm).2.2.2.2
  simp only at hx hlt hc2
  rw [hx, Option.getD_some, if_pos hne, if_neg (by simp)] at hc2
  rw [hdrop]
  simp only
  rw [hd2.count, hd.count, (hd2.put o2).count]
  refine ⟨hd2, hd2.find hm, by omega, kept_of hd2 fun e he _ => (mem_with hd o).2 (Or.inr ⟨he, fun hk => ?_⟩), trivial, by omega, ?_⟩
  · have h1 := (hd.mem he).2.2.2.2
    have h2 := freeAt_free s
    rw [← hk, h1, Option.getD_some] at h2
    exact slot_ne_free _ _ (hd.mem he).2.2.2.1 (hd.mem he).2.2.1 h2
  · rw [withS_size hd2.size.1 freeB_size, if_pos hlt]
theorem ren_ok {s o n : ByteArray} (h : (renS s o n).2.2 = 0) :
    IsDir s ∧ nameOk n = true ∧ ∃ e, e ∈ entsS s ∧ e.name = o ∧ (∀ f ∈ entsS s, f.name = n → f.slot = e.slot) ∧ renS s o n = (withS s e.slot (slotB e.path n), e.slot, 0) := by
  unfold renS at h ⊢
  cases hl : listS s with
  | none => rw [hl] at h; cases h
  | some l =>
    rw [hl] at h
    obtain ⟨hd, rfl⟩ := listS_iff.1 hl
    simp only at h ⊢
    cases he : findE (entsS s) o with
    | none => rw [he] at h; cases h
    | some e =>
      rw [he] at h
      obtain ⟨h1, h2⟩ := (find_iff hd.apart).1 he
      simp only at h ⊢
      split at h
      · cases h
      rename_i hn
      rw [if_neg hn]
      have hn : nameOk n = true := by simpa using hn
      cases hf : findE (entsS s) n with
      | none => exact ⟨hd, hn, e, h1, h2, fun f hfm hfn => absurd hfn (find_none.1 hf f hfm), rfl⟩
      | some f =>
        rw [hf] at h
        simp only at h ⊢
        split at h
        · rename_i hs
          rw [if_pos hs]
          refine ⟨hd, hn, e, h1, h2, fun g hg hgn => ?_, rfl⟩
          have := (find_iff hd.apart).2 ⟨hg, hgn⟩
          rw [hf] at this
          cases this
          exact hs
        · cases h
theorem keep_ren {s o n : ByteArray} (h : (renS s o n).2.2 = 0) :
    IsDir (renS s o n).1 ∧ (findS (renS s o n).1 n).1 = ((renS s o n).2.1 : Int) ∧ findS (renS s o n).1 n = findS s o ∧ countS (renS s o n).1 = countS s ∧ (renS s o n).1.size = s.size ∧ keptS (renS s o n).1 (entsS s) o = true := by
  obtain ⟨hd, hn, e, he, heo, hu, e1⟩ := ren_ok h
  rw [e1]
  simp only
  obtain ⟨g1, g2, g3, g4, g5⟩ := hd.mem he
  have hne := slot_ne_free e.path n g4 g3
  have hN := readN_slot e.path n (nameOk_size hn).2
  have hP := readP_slot e.path n g4
  have os : SetOk s e.slot (slotB e.path n) := {
    le := by omega
    lt := by have := hd.nslots; omega
    size := slotB_size (nameOk_size hn).2
    form := Or.inr (readOk_slot e.path n g4 g3 hn)
    apart := fun _ f hf hs => by
      rw [hN, hP]
      exact ⟨fun hx => hs (hu f hf hx), fun hx => hs (by rw [hd.path_inj hf he (Or.inl hx)])⟩ }
  have hd2 := hd.put os
  have hm : mkE (slotB e.path n) e.slot ∈ entsS (withS s e.slot (slotB e.path n)) := (mem_with hd os).2 (Or.inl ⟨hne, rfl⟩)
  have hm2 : mkE (slotB e.path n) e.slot = ⟨e.slot, e.path, n⟩ := by unfold mkE; rw [hN, hP]
  rw [hm2] at hm
  have hc := count_with hd os
  rw [g5, Option.getD_some, if_pos (slot_ne_free _ _ g4 g3), if_pos hne] at hc
  have f1 := hd2.find hm
  have f2 := hd.find he
  rw [heo] at f2
  simp only at f1
  rw [hd2.count, hd.count, f1, f2]
  refine ⟨hd2, rfl, rfl, by omega, by rw [withS_size hd.size.1 os.size, if_pos g1], kept_of hd2 fun f hf hfo => (mem_with hd os).2 (Or.inr ⟨hf, fun hk => hfo ?_⟩)⟩
  rw [IsDir.slot_inj hf he hk, heo]
theorem drop_ok {s n : ByteArray} (h : (dropS s n).2.2 = 0) : IsDir s ∧ ∃ e, e ∈ entsS s ∧ e.name = n ∧ dropS s n = (withS s e.slot freeB, e.slot, 0) := by
  unfold dropS at h ⊢
  cases hl : listS s with
  | none => rw [hl] at h; cases h
  | some l =>
    rw [hl] at h
    obtain ⟨hd, rfl⟩ := listS_iff.1 hl
    simp only at h ⊢
    cases he : findE (entsS s) n with
    | none => rw [he] at h; cases h
    | some e =>
      obtain ⟨h1, h2⟩ := (find_iff hd.apart).1 he
      exact ⟨hd, e, h1, h2, rfl⟩
theorem keep_drop {s n : ByteArray} (h : (dropS s n).2.2 = 0) :
    IsDir (dropS s n).1 ∧ findS (dropS s n).1 n = (-1, 0) ∧ countS (dropS s n).1 + 1 = countS s ∧ (dropS s n).1.size = s.size ∧ keptS (dropS s n).1 (entsS s) n = true := by
  obtain ⟨hd, e, he, hen, e1⟩ := drop_ok h
  rw [e1]
  simp only
  obtain ⟨g1, g2, g3, g4, g5⟩ := hd.mem he
  have os := free_set g1 hd
  have hd2 := hd.put os
  have hc := count_with hd os
  rw [g5, Option.getD_some, if_pos (slot_ne_free _ _ g4 g3), if_neg (by simp)] at hc
  rw [hd2.count, hd.count]
  refine ⟨hd2, findS_none hd2 (find_none.2 fun f hf hfn => ?_), by omega, by rw [withS_size hd.size.1 os.size, if_pos g1], kept_of hd2 fun f hf hfo => (mem_with hd os).2 (Or.inr ⟨hf, fun hk => hfo ?_⟩)⟩
  · rcases (mem_with hd os).1 hf with ⟨h1, _⟩ | ⟨h1, h2⟩
    · exact h1 rfl
    · exact h2 (by rw [hd.path_inj h1 he (Or.inr (hfn.trans hen.symm))])
  · rw [IsDir.slot_inj hf he hk, hen]
end Go.Proofs.YtfkmfllhlhefdaaDoor
