/- Windows, one behind the other, plain. -/
import Derived.Test.YtjhhknmdnkkknaaPWin
import Derived.Test.YtjhhknmdnkkknaaPStatAll
namespace Go.Proofs.Ytjhhknmdnkkknaa

def catB : List ByteArray → ByteArray
  | [] => ByteArray.empty
  | b :: l => b ++ catB l
theorem catB_append (l m : List ByteArray) : catB (l ++ m) = catB l ++ catB m := by
  induction l with
  | nil => rw [List.nil_append]; show _ = ByteArray.empty ++ catB m; rw [ByteArray.empty_append]
  | cons a l ih => rw [List.cons_append]; show a ++ catB (l ++ m) = (a ++ catB l) ++ catB m; rw [ih, ByteArray.append_assoc]
theorem catB_size (l : List ByteArray) : (catB l).size = szB l := by
  induction l with
  | nil => rfl
  | cons a l ih => show (a ++ catB l).size = _; rw [ByteArray.size_append, ih]; simp [szB]
theorem dropTo_at (B : List ByteArray) : ∀ (j a : Nat), j ≤ B.length → (∀ b ∈ B, 0 < b.size) → dropTo (a + szB (B.take j)) B a = some (B.drop j) := by
  induction B with
  | nil => intro j a hj _; obtain rfl : j = 0 := by simpa using hj
           rw [dropTo]; simp [szB]
  | cons b l ih =>
    intro j a hj hp
    cases j with
    | zero => rw [dropTo, if_pos (by simp [szB])]; rfl
    | succ j =>
      have h0 := hp b (List.mem_cons_self ..)
      have e : szB ((b :: l).take (j + 1)) = b.size + szB (l.take j) := by simp [szB]
      rw [dropTo, if_neg (by omega), e, ← Nat.add_assoc, ih j (a + b.size) (by simpa using hj) fun x hx => hp x (List.mem_cons_of_mem _ hx)]
      rfl
theorem fillW_form (count : Nat) (l : List ByteArray) : ∀ acc : ByteArray, ∃ m, m ≤ l.length ∧ fillW count l acc = acc ++ catB (l.take m) ∧ (acc.size ≤ count → acc.size + szB (l.take m) ≤ count) ∧ (∀ b l', l = b :: l' → acc.size + b.size ≤ count → 0 < m) := by
  induction l with
  | nil => intro acc; refine ⟨0, by simp, ?_, fun h => by simpa [szB] using h, fun b l' h => by cases h⟩
           rw [fillW]; show acc = acc ++ ByteArray.empty; rw [ByteArray.append_empty]
  | cons b l ih =>
    intro acc
    rw [fillW]
    by_cases h : count < acc.size + b.size
    · rw [if_pos h]
      refine ⟨0, by simp, ?_, fun h => by simpa [szB] using h, fun c l' e g => ?_⟩
      · show acc = acc ++ ByteArray.empty; rw [ByteArray.append_empty]
      · injection e with e1 e2; subst e1; omega
    · rw [if_neg h]
      obtain ⟨m, h1, h2, h3, h4⟩ := ih (acc ++ b)
      refine ⟨m + 1, by simpa using h1, ?_, fun _ => ?_, fun _ _ _ _ => by omega⟩
      · rw [h2, ByteArray.append_assoc]; rfl
      · have := h3 (by rw [ByteArray.size_append]; omega)
        rw [ByteArray.size_append] at this
        have e : szB ((b :: l).take (m + 1)) = b.size + szB (l.take m) := by simp [szB]
        omega
theorem szB_split (B : List ByteArray) (j m : Nat) : szB (B.take (j + m)) = szB (B.take j) + szB ((B.drop j).take m) := by
  rw [List.take_add]
  simp only [szB, List.map_append, List.sum_append]
/-- a window from the j-th stat on -/
theorem winS_from {L : List St} {j count : Nat} (hj : j ≤ L.length) (hok : ∀ s ∈ L, (encS s).2 = 0) (hc : ∀ s ∈ L, (encB s).size ≤ count) :
    ∃ m, j ≤ m ∧ m ≤ L.length ∧ (j < L.length → j < m) ∧ winS L (szB ((L.map encB).take j)) count = (catB (((L.map encB).drop j).take (m - j)), 0) ∧
      szB ((L.map encB).take j) + (catB (((L.map encB).drop j).take (m - j))).size = szB ((L.map encB).take m) ∧ (catB (((L.map encB).drop j).take (m - j))).size ≤ count ∧
      catB ((L.map encB).take m) = catB ((L.map encB).take j) ++ catB (((L.map encB).drop j).take (m - j)) ∧ (catB (((L.map encB).drop j).take (m - j)) = ByteArray.empty ↔ j = L.length) := by
  have hBl : (L.map encB).length = L.length := List.length_map ..
  have hp : ∀ b ∈ L.map encB, 0 < b.size ∧ b.size ≤ count := fun b hb => by
    obtain ⟨s, hs, rfl⟩ := List.mem_map.1 hb
    have := encB_size (hok s hs)
    exact ⟨by omega, hc s hs⟩
  rw [winS_ok hok]
  have hd := dropTo_at (L.map encB) j 0 (by omega) fun b hb => (hp b hb).1
  rw [Nat.zero_add] at hd
  rw [hd]
  generalize L.map encB = B at *
  rcases Nat.lt_or_ge j L.length with g | g
  · have hjB : j < B.length := by omega
    rw [List.drop_eq_getElem_cons hjB]
    have hb := hp B[j] (List.getElem_mem _)
    simp only
    rw [if_neg (by omega)]
    obtain ⟨m, h1, h2, h3, h4⟩ := fillW_form count (B[j] :: B.drop (j + 1)) ByteArray.empty
    have h4 := h4 _ _ rfl (by show 0 + _ ≤ _; omega)
    rw [← List.drop_eq_getElem_cons hjB] at *
    rw [List.length_drop] at h1
    rw [ByteArray.empty_append] at h2
    have h3 := h3 (Nat.zero_le _)
    have e0 : (ByteArray.empty).size = 0 := rfl
    rw [e0] at h3
    have e : j + m - j = m := by omega
    refine ⟨j + m, by omega, by omega, fun _ => by omega, ?_, ?_, ?_, ?_, ?_⟩
    · rw [e, h2]
    · rw [e, catB_size, szB_split]
    · rw [e, catB_size]; omega
    · rw [e, List.take_add, catB_append]
    · rw [e]
      refine ⟨fun h => ?_, fun h => by omega⟩
      have h5 := catB_size ((B.drop j).take m)
      rw [h, e0] at h5
      have h6 : szB ((B.drop j).take m) ≥ B[j].size := by
        rw [List.drop_eq_getElem_cons hjB]
        obtain ⟨m', rfl⟩ : ∃ m', m = m' + 1 := ⟨m - 1, by omega⟩
        rw [List.take_succ_cons]
        simp only [szB, List.map_cons, List.sum_cons]
        omega
      omega
  · obtain rfl : j = L.length := by omega
    have hz : B.drop L.length = [] := List.drop_eq_nil_of_le (by omega)
    rw [hz]
    refine ⟨L.length, Nat.le_refl _, Nat.le_refl _, fun h => by omega, ?_, ?_, ?_, ?_, ?_⟩
    · rw [Nat.sub_self]; rfl
    · rw [Nat.sub_self]; rfl
    · rw [Nat.sub_self]; exact Nat.zero_le _
    · rw [Nat.sub_self]; show _ = _ ++ ByteArray.empty; rw [ByteArray.append_empty]
    · rw [Nat.sub_self]; exact ⟨fun _ => rfl, fun _ => rfl⟩
/-- at the end there is nothing, whatever the count -/
theorem winS_end {L : List St} {count : Nat} (hok : ∀ s ∈ L, (encS s).2 = 0) : winS L (szB (L.map encB)) count = (ByteArray.empty, 0) := by
  have hp : ∀ b ∈ L.map encB, 0 < b.size := fun b hb => by
    obtain ⟨s, hs, rfl⟩ := List.mem_map.1 hb
    have := encB_size (hok s hs)
    omega
  have hd := dropTo_at (L.map encB) L.length 0 (by rw [List.length_map]; exact Nat.le_refl _) hp
  rw [Nat.zero_add, List.take_of_length_le (by rw [List.length_map]; exact Nat.le_refl _), List.drop_eq_nil_of_le (by rw [List.length_map]; exact Nat.le_refl _)] at hd
  rw [winS_ok hok, hd]
/-- all of them, one behind the other, are read -/
theorem allS_cat (L : List St) : ∀ (k : Nat) (acc : List St), (∀ s ∈ L, s.Ok ∧ (encS s).2 = 0) → (catB (L.map encB)).size < k → allS k (catB (L.map encB)) acc = (acc ++ L, 0) := by
  induction L with
  | nil => intro k acc _ hk; rw [allS_end hk rfl, List.append_nil]
  | cons s L ih =>
    intro k acc h hk
    obtain ⟨h1, h2⟩ := h s (List.mem_cons_self ..)
    have hn := next_enc s h1 h2 (catB (L.map encB))
    have hz := encB_size h2
    have e : catB ((s :: L).map encB) = encB s ++ catB (L.map encB) := rfl
    rw [e] at hk ⊢
    have hsz : (encB s ++ catB (L.map encB)).size = (encB s).size + (catB (L.map encB)).size := ByteArray.size_append
    obtain ⟨j, hj, hlt, hr⟩ := allS_step (acc := acc) hk (by omega) (by rw [hn])
    rw [hn] at hlt hr
    simp only at hlt hr
    have ex : (encB s ++ catB (L.map encB)).extract (encB s).size (encB s ++ catB (L.map encB)).size = catB (L.map encB) := by
      apply ByteArray.ext
      rw [ByteArray.data_extract, ByteArray.data_append, hsz]
      show (_ : Array UInt8) = _
      have : (encB s).size = (encB s).data.size := rfl
      rw [this]
      apply Array.ext'
      rw [Array.toList_extract, Array.toList_append]
      simp
      exact List.take_of_length_le (Nat.le_of_eq Array.length_toList)
    rw [ex] at hlt hr
    rw [hr, ih j _ (fun t ht => h t (List.mem_cons_of_mem _ ht)) hlt, List.append_assoc]
    rfl
theorem allR_cat {L : List St} (h : ∀ s ∈ L, s.Ok ∧ (encS s).2 = 0) : allR (catB (L.map encB)) = (L, 0) := by
  unfold allR
  rw [allS_cat L _ [] h (by omega), List.nil_append]
end Go.Proofs.Ytjhhknmdnkkknaa
