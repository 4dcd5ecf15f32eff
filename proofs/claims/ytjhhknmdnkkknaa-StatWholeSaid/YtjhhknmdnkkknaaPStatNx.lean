/- What is read of a stat, byte by byte, plain. -/
import Derived.Test.YtjhhknmdnkkknaaPStatRead
namespace Go.Proofs.Ytjhhknmdnkkknaa

theorem Rd.bytes_in {q : Rd} {k : Nat} (hf : q.f = 0) (h : q.at_ + k ≤ q.s.size) : q.bytes k = (q.s.extract q.at_ (q.at_ + k), ⟨q.s, q.at_ + k, 0⟩) := by
  unfold Rd.bytes
  rw [if_neg (by omega), if_neg (by omega), if_neg (by simp only [Int.toNat_natCast]; omega)]
  simp only [Int.toNat_natCast]
theorem Rd.bytes_out {q : Rd} {k : Nat} (hf : q.f = 0) (h : q.s.size < q.at_ + k) : q.bytes k = (ByteArray.empty, ⟨q.s, q.at_, 50⟩) := by
  unfold Rd.bytes
  rw [if_neg (by omega), if_neg (by omega), if_pos (by simp only [Int.toNat_natCast]; omega)]
theorem Rd.bytes_adv {q : Rd} {k : Nat} (h : (q.bytes k).2.f = 0) : q.f = 0 ∧ q.at_ + k ≤ q.s.size ∧ (q.bytes k).2.at_ = q.at_ + k := by
  by_cases hf : q.f = 0
  · rcases Nat.lt_or_ge q.s.size (q.at_ + k) with g | g
    · rw [Rd.bytes_out hf g] at h
      exact absurd h (by simp)
    · rw [Rd.bytes_in hf g]
      exact ⟨hf, g, rfl⟩
  · rw [Rd.bytes_fault q _ hf] at h
    exact absurd h hf
theorem Rd.num_in {q : Rd} {k : Nat} (hf : q.f = 0) (h : q.at_ + k ≤ q.s.size) : q.num k = (leNat (q.s.extract q.at_ (q.at_ + k)).data.toList, ⟨q.s, q.at_ + k, 0⟩) := by
  unfold Rd.num
  rw [Rd.bytes_in hf h]
theorem Rd.num_adv {q : Rd} {k : Nat} (h : (q.num k).2.f = 0) : q.f = 0 ∧ q.at_ + k ≤ q.s.size ∧ (q.num k).2.at_ = q.at_ + k := Rd.bytes_adv h
/-- the bytes that a text's length says -/
def Rd.tl (q : Rd) : Nat := leNat (q.s.extract q.at_ (q.at_ + 2)).data.toList
theorem Rd.text_in {q : Rd} (hf : q.f = 0) (h : q.at_ + 2 + q.tl ≤ q.s.size) : q.text = (q.s.extract (q.at_ + 2) (q.at_ + 2 + q.tl), ⟨q.s, q.at_ + 2 + q.tl, 0⟩) := by
  unfold Rd.text
  rw [Rd.num_in hf (by omega)]
  simp only
  rw [show leNat (q.s.extract q.at_ (q.at_ + 2)).data.toList = q.tl from rfl, Rd.bytes_in (q := ⟨q.s, q.at_ + 2, 0⟩) rfl h]
  simp only [Rd.keep]
  rfl
theorem Rd.keep_f (q : Rd) (a : Nat) : (q.keep a).f = q.f := by unfold Rd.keep; split <;> rfl
theorem Rd.text_adv {q : Rd} (h : q.text.2.f = 0) : q.f = 0 ∧ q.at_ + 2 + q.tl ≤ q.s.size ∧ q.text.2.at_ = q.at_ + 2 + q.tl := by
  have h' := h
  unfold Rd.text at h'
  simp only [Rd.keep_f] at h'
  obtain ⟨h1, h2, h3⟩ := Rd.bytes_adv h'
  obtain ⟨h4, h5, h6⟩ := Rd.num_adv h1
  rw [Rd.num_in h4 h5] at h2
  have h2 : q.at_ + 2 + q.tl ≤ q.s.size := h2
  exact ⟨h4, h2, by rw [Rd.text_in h4 h2]⟩
theorem Rd.tq_fault {q : Rd} (h : q.f ≠ 0) (k : Nat) : q.tq k = q := by
  induction k with
  | zero => rfl
  | succ k ih => show (q.tq k).text.2 = q; rw [ih, Rd.text_fault q h]
theorem Rd.tq_add (q : Rd) (k m : Nat) : (q.tq k).tq m = q.tq (k + m) := by
  induction m with
  | zero => rfl
  | succ m ih => show ((q.tq k).tq m).text.2 = _; rw [ih]; rfl
theorem Rd.tq_stop {q : Rd} {k m : Nat} (hkm : k ≤ m) (h : (q.tq k).f ≠ 0) : (q.tq m).end_ ≠ 0 := by
  obtain ⟨d, rfl⟩ : ∃ d, m = k + d := ⟨m - k, by omega⟩
  rw [← Rd.tq_add, Rd.tq_fault h]
  unfold Rd.end_
  rw [if_pos h]
  exact h
theorem Rd.text_bad {q : Rd} (h : q.s.size < q.at_ + 2 + q.tl) : q.text.2.f ≠ 0 := fun h0 => by
  have := (Rd.text_adv h0).2.1
  omega
theorem Rd.text_bad1 {q : Rd} (h : q.s.size < q.at_ + 2) : q.text.2.f ≠ 0 := fun h0 => by
  have := (Rd.text_adv h0).2.1
  omega
theorem Rd.tq_adv {q : Rd} : ∀ {k : Nat}, (q.tq k).f = 0 → q.f = 0 ∧ q.at_ + 2 * k ≤ (q.tq k).at_
  | 0, h => ⟨h, Nat.le_refl _⟩
  | k + 1, h => by
    have h1 := Rd.text_adv (q := q.tq k) h
    have h2 := Rd.tq_adv h1.1
    have : (q.tq (k + 1)).at_ = _ := h1.2.2
    exact ⟨h2.1, by rw [this]; omega⟩
theorem end_short (s : ByteArray) (h : s.size < 47) : ((St.nq ⟨s, 0, 0⟩).tq 4).end_ ≠ 0 := by
  by_cases hf : ((St.nq ⟨s, 0, 0⟩).tq 4).f = 0
  · exfalso
    have hat := Rd.tq_at (St.nq ⟨s, 0, 0⟩) 4
    have hs := Rd.tq_s (St.nq ⟨s, 0, 0⟩) 4
    obtain ⟨h1, h2⟩ := Rd.tq_adv hf
    unfold St.nq at h1 h2 hat hs
    have g9 := Rd.num_adv h1
    have g8 := Rd.num_adv g9.1
    have g7 := Rd.num_adv g8.1
    have g6 := Rd.num_adv g7.1
    have g5 := Rd.num_adv g6.1
    have g4 := Rd.num_adv g5.1
    have g3 := Rd.num_adv g4.1
    have g2 := Rd.num_adv g3.1
    have g1 := Rd.num_adv g2.1
    have e1 := g1.2.2
    have e2 := g2.2.2
    have e3 := g3.2.2
    have e4 := g4.2.2
    have e5 := g5.2.2
    have e6 := g6.2.2
    have e7 := g7.2.2
    have e8 := g8.2.2
    have e9 := g9.2.2
    have hle := g9.2.1
    simp only [Rd.num_s] at hs hle hat
    have h3 := hat (by omega)
    rw [hs] at h3
    omega
  · unfold Rd.end_
    rw [if_pos hf]
    exact hf
theorem nextS_short1 {b : ByteArray} (h : b.size < 2) : nextS b = (St.zero, 0, 50) := by
  unfold nextS
  have h1 : (Rd.mk b 0 0).num 2 = (0, ⟨b, 0, 50⟩) := by unfold Rd.num; rw [Rd.bytes_out rfl (by show b.size < 0 + 2; omega)]; rfl
  rw [h1, Rd.bytes_fault _ _ (by simp)]
  rw [if_pos (by simp)]
def bodyLen (b : ByteArray) : Nat := leNat (b.extract 0 2).data.toList
theorem nextS_num {b : ByteArray} (h : 2 ≤ b.size) : (Rd.mk b 0 0).num 2 = (bodyLen b, ⟨b, 2, 0⟩) := Rd.num_in (q := ⟨b, 0, 0⟩) rfl (by show 0 + 2 ≤ b.size; omega)
theorem nextS_short2 {b : ByteArray} (h : 2 ≤ b.size) (h2 : b.size < 2 + bodyLen b) : nextS b = (St.zero, 0, 50) := by
  unfold nextS
  rw [nextS_num h]
  simp only
  rw [Rd.bytes_out (q := ⟨b, 2, 0⟩) rfl h2, if_pos (by simp)]
theorem nextS_body {b : ByteArray} (h : 2 ≤ b.size) (h2 : 2 + bodyLen b ≤ b.size) : nextS b = if ((St.nq ⟨b.extract 2 (2 + bodyLen b), 0, 0⟩).tq 4).end_ ≠ 0 then (St.zero, 0, 51) else (St.read ⟨b.extract 2 (2 + bodyLen b), 0, 0⟩, 2 + bodyLen b, 0) := by
  unfold nextS
  rw [nextS_num h]
  simp only
  rw [Rd.bytes_in (q := ⟨b, 2, 0⟩) rfl h2, if_neg (by simp)]
def xn (s : ByteArray) (i j : Nat) : Nat := leNat (s.extract i j).data.toList
theorem num_step (s : ByteArray) (a k : Nat) (h : a + k ≤ s.size) : (Rd.mk s a 0).num k = (xn s a (a + k), ⟨s, a + k, 0⟩) := Rd.num_in (q := ⟨s, a, 0⟩) rfl h
theorem read_full (s : ByteArray) (h : 39 ≤ s.size) : St.nq ⟨s, 0, 0⟩ = ⟨s, 39, 0⟩ ∧ St.read ⟨s, 0, 0⟩ = ⟨xn s 0 2, xn s 2 6, xn s 6 7, xn s 7 11, xn s 11 19, xn s 19 23, xn s 23 27, xn s 27 31, xn s 31 39,
    ((Rd.mk s 39 0).tq 0).text.1, ((Rd.mk s 39 0).tq 1).text.1, ((Rd.mk s 39 0).tq 2).text.1, ((Rd.mk s 39 0).tq 3).text.1⟩ := by
  have h1 := num_step s 0 2 (by omega)
  have h2 := num_step s 2 4 (by omega)
  have h3 := num_step s 6 1 (by omega)
  have h4 := num_step s 7 4 (by omega)
  have h5 := num_step s 11 8 (by omega)
  have h6 := num_step s 19 4 (by omega)
  have h7 := num_step s 23 4 (by omega)
  have h8 := num_step s 27 4 (by omega)
  have h9 := num_step s 31 8 (by omega)
  simp only [Nat.zero_add, Nat.reduceAdd] at h1 h2 h3 h4 h5 h6 h7 h8 h9
  unfold St.nq St.read
  simp only [h1, h2, h3, h4, h5, h6, h7, h8, h9]
  exact ⟨trivial, trivial⟩
end Go.Proofs.Ytjhhknmdnkkknaa
