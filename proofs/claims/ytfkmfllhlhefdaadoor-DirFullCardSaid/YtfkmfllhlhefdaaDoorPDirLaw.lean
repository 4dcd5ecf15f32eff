/- Directories, plain: a small known run. -/
import Derived.Test.YtfkmfllhlhefdaaDoorPDirLoad
import Derived.Lib.ValidLaws
namespace Go.Proofs.YtfkmfllhlhefdaaDoor

theorem nameOk_low {s : ByteArray} (h0 : 0 < s.size) (h55 : s.size ≤ 55) (hl : ∀ b ∈ s.data.toList, 97 ≤ b.toNat ∧ b.toNat ≤ 122) : nameOk s = true := by
  have hv : Lib.validD s.data.toList = true := by
    rw [Lib.validD_ascii s.data.toList.length _ (fun b hb => by have := hl b (List.mem_of_mem_take hb); omega), List.drop_length]
    rfl
  have hb : s.data.toList.any badB = false := by
    rw [List.any_eq_false]
    intro b hb
    have := hl b hb
    unfold badB
    simp
    omega
  have ne : ∀ l : List UInt8, (46 : UInt8) ∈ l → s.data.toList ≠ l := by
    intro l h46 h
    rw [← h] at h46
    have := hl 46 h46
    have e : (46 : UInt8).toNat = 46 := rfl
    omega
  unfold nameOk
  rw [hv, hb, decide_eq_true ⟨h0, h55, ne _ (by simp), ne _ (by simp)⟩]
  rfl
theorem put_intro {s n : ByteArray} {p : Nat} (hd : IsDir s) (hn : nameOk n = true) (hp0 : p ≠ 0) (ha : ∀ e ∈ entsS s, e.path ≠ p ∧ e.name ≠ n) (hf : freeAt s < 112) :
    putS s n p = (withS s (freeAt s) (slotB p n), freeAt s, 0) := by
  unfold putS
  rw [hd.list]
  simp only
  have h1 : hasP (entsS s) p = false := hasP_false.2 fun e he => (ha e he).1
  have h2 : hasN (entsS s) n = false := hasN_false.2 fun e he => (ha e he).2
  rw [hn, h1, h2]
  simp only [Bool.true_eq_false, if_false, Bool.false_eq_true, or_false]
  rw [if_neg hp0, if_neg (by omega)]
theorem slots_empty : slotsL ByteArray.empty = [] := rfl
theorem isDir_empty : IsDir ByteArray.empty := ⟨by decide, fun x hx => (by rw [slots_empty] at hx; cases hx), fun i j x y hx => (by rw [slots_empty, List.getElem?_nil] at hx; cases hx)⟩
theorem ents_empty : entsS ByteArray.empty = [] := rfl
theorem free_empty : freeAt ByteArray.empty = 0 := rfl
theorem freeAt_snoc {s y : ByteArray} (hs : s.size % 64 = 0) (hy : y.size = 64) (hne : y ≠ freeB) (hf : freeAt s = s.size / 64) : freeAt (withS s (freeAt s) y) = s.size / 64 + 1 ∧ (withS s (freeAt s) y).size = s.size + 64 := by
  have hz := withS_size (k := freeAt s) hs hy
  rw [hf, if_neg (Nat.lt_irrefl _)] at hz
  rw [hf]
  refine ⟨?_, hz⟩
  have hsl := slotsL_with (k := s.size / 64) hs hy (Nat.le_refl _)
  have hl := slotsL_length s
  unfold freeAt at hf ⊢
  rw [hsl]
  unfold putAt
  rw [if_neg (by omega), List.findIdx_append, hf, if_neg (by omega), hl]
  have e2 : [y].findIdx (fun x => decide (x = freeB)) = 1 := by rw [List.findIdx_cons]; simp [hne]
  rw [e2]
  omega
theorem works_facts : ∃ a b c, putS ⟨#[]⟩ ⟨#[97]⟩ 5 = (a, 0, 0) ∧ putS a ⟨#[98]⟩ 6 = (b, 1, 0) ∧ dropS b ⟨#[97]⟩ = (c, 0, 0) ∧ c.size = 128 ∧ findS c ⟨#[98]⟩ = (1, 6) ∧ countS c = 1 ∧ a.size = 64 ∧ b.size = 128 := by
  have na : nameOk ⟨#[97]⟩ = true := nameOk_low (by decide) (by decide) (by decide)
  have nb : nameOk ⟨#[98]⟩ = true := nameOk_low (by decide) (by decide) (by decide)
  have hz := slotB_size (p := 5) (nameOk_size na).2
  have hz2 := slotB_size (p := 6) (nameOk_size nb).2
  have e1 : putS ByteArray.empty ⟨#[97]⟩ 5 = _ := put_intro isDir_empty na (by decide) (fun e he => (by rw [ents_empty] at he; cases he)) (by rw [free_empty]; decide)
  have k1 := keep_put (s := ByteArray.empty) (n := ⟨#[97]⟩) (p := 5) (by decide) (by rw [e1])
  have f1 := freeAt_snoc (s := ByteArray.empty) (by decide) hz (slot_ne_free 5 _ (by decide) (by decide)) free_empty
  have o1 := put_set (s := ByteArray.empty) (n := ⟨#[97]⟩) (p := 5) (by decide) na (by decide) (fun e he => (by rw [ents_empty] at he; cases he)) (by rw [free_empty]; decide)
  have m1 := fun e => mem_with isDir_empty o1 (e := e)
  rw [e1] at k1
  rw [free_empty] at e1 f1 k1 m1
  simp only at k1
  obtain ⟨d1, _, c1, _⟩ := k1
  have c0 : countS ByteArray.empty = 0 := rfl
  rw [c0] at c1
  generalize ha : withS ByteArray.empty 0 (slotB 5 ⟨#[97]⟩) = a at *
  have f1b : a.size = 64 := f1.2
  have f1a : freeAt a = 1 := f1.1
  have hents : ∀ e ∈ entsS a, e.path ≠ 6 ∧ e.name ≠ ⟨#[98]⟩ := by
    intro e he
    rcases (m1 e).1 he with ⟨_, rfl⟩ | ⟨h, _⟩
    · unfold mkE
      rw [readP_slot 5 _ (by decide), readN_slot 5 _ (by decide)]
      exact ⟨by decide, by decide⟩
    · rw [ents_empty] at h; cases h
  have e2 := put_intro d1 nb (by decide) hents (by rw [f1a]; decide)
  have k2 := keep_put (s := a) (n := ⟨#[98]⟩) (p := 6) (by decide) (by rw [e2])
  have f2 := freeAt_snoc (s := a) (by rw [f1b]) hz2 (slot_ne_free 6 _ (by decide) (by decide)) (by rw [f1a, f1b])
  have o2 := put_set (s := a) (n := ⟨#[98]⟩) (p := 6) (by decide) nb (by decide) hents (by rw [f1a]; decide)
  have m2 := fun e => mem_with d1 o2 (e := e)
  rw [e2] at k2
  rw [f1a] at e2 f2 k2 m2
  simp only at k2
  obtain ⟨d2, _, c2, _⟩ := k2
  rw [c1] at c2
  generalize withS a 1 (slotB 6 ⟨#[98]⟩) = b at *
  have f2b : b.size = 128 := by rw [f2.2, f1b]
  have ha0 : (⟨0, 5, ⟨#[97]⟩⟩ : Ent) ∈ entsS a := by
    refine (m1 _).2 (Or.inl ⟨slot_ne_free 5 _ (by decide) (by decide), ?_⟩)
    unfold mkE
    rw [readP_slot 5 _ (by decide), readN_slot 5 _ (by decide)]
  have hb0 : (⟨0, 5, ⟨#[97]⟩⟩ : Ent) ∈ entsS b := (m2 _).2 (Or.inr ⟨ha0, by decide⟩)
  have hb1 : (⟨1, 6, ⟨#[98]⟩⟩ : Ent) ∈ entsS b := by
    refine (m2 _).2 (Or.inl ⟨slot_ne_free 6 _ (by decide) (by decide), ?_⟩)
    unfold mkE
    rw [readP_slot 6 _ (by decide), readN_slot 6 _ (by decide)]
  have e3 : dropS b ⟨#[97]⟩ = (withS b 0 freeB, 0, 0) := by
    unfold dropS
    rw [d2.list]
    simp only
    rw [(find_iff d2.apart).2 ⟨hb0, rfl⟩]
  have k3 := keep_drop (s := b) (n := ⟨#[97]⟩) (by rw [e3])
  rw [e3] at k3
  simp only at k3
  obtain ⟨d3, _, c3, z3, p3⟩ := k3
  have hc1 : findS (withS b 0 freeB) ⟨#[98]⟩ = (1, 6) := by
    have hm : (⟨1, 6, ⟨#[98]⟩⟩ : Ent) ∈ entsS (withS b 0 freeB) := (mem_with d2 (free_set (by rw [f2b]; decide) d2)).2 (Or.inr ⟨hb1, by decide⟩)
    exact d3.find hm
  exact ⟨a, b, withS b 0 freeB, e1, e2, e3, by rw [z3, f2b], hc1, by omega, f1b, f2b⟩
theorem name_dots : nameOk ⟨#[46, 46]⟩ = false := by
  unfold nameOk
  rw [decide_eq_false (by rintro ⟨_, _, _, h⟩; exact h rfl)]
  rfl
def heavyS (s n o : ByteArray) : Bool := decide (4480 < s.size) || (decide (4096 < n.size) || decide (4096 < o.size))
end Go.Proofs.YtfkmfllhlhefdaaDoor
