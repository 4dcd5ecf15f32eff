/- Package dir's Name. -/
import Derived.Test.YtfkmfllhlhefdaaDoorShelf
import Derived.Test.YtfkmfllhlhefdaaDoorPDirName
namespace Go.Proofs.YtfkmfllhlhefdaaDoor
open Go.RowKit Go.Shelf

/-- the library's tables lie there -/
def Tabs (w : World) : Prop := Lib.Utf8Tabs (Tryd.lays196_ren.g 3) (Tryd.lays196_ren.g 4) w
theorem Tabs.mod {w w' : World} (h : Tabs w) (hm : Mod (fun _ => False) w w') : Tabs w' := Utf8Tabs_below h hm.below
theorem valid_any (s : ByteArray) (w : World) (hs : s.size ≤ 9223372036854775807) (hT : Tabs w) :
    Calls Tryd.prog 27 #[.string s] w fun e w' => e = .returned (.bool (Lib.validD s.data.toList)) ∧ Mod (fun _ => False) w w' :=
  (Tryd.utf8_ValidString s w hs hT).mono fun _ _ h => ⟨h.1, Mod.of_below h.2⟩
set_option maxHeartbeats 400000 in
theorem bad_any (x : Nat) (w : World) : Calls Tryd.prog 36 #[.int .i32 x] w fun e w' => e = .returned (.bool (badR x)) ∧ w' = w := by
  have HV : Hid (badR x = (decide ((x : Int) < 32) || (((x : Int) == 127) || ((x : Int) == 47)))) := by
    show _ = _
    unfold badR
    congr 1
    · simp; omega
    · congr 1 <;> (rw [Bool.eq_iff_iff]; simp; omega)
  by_cases h1 : (x : Int) < 32
  · have t1 : decide ((x : Int) < 32) = true := by simp; omega
    go_enter Tryd.func36, Tryd.ntmps36
    go_wp2
    go_ret
    exact ⟨by rw [HV.out, t1]; rfl, rfl⟩
  have t1 : decide ((x : Int) < 32) = false := by simp; omega
  by_cases h2 : (x : Int) = 127
  · have t2 : ((x : Int) == 127) = true := by simp; omega
    go_enter Tryd.func36, Tryd.ntmps36
    go_wp2
    go_ret
    exact ⟨by rw [HV.out, t1, t2]; rfl, rfl⟩
  have t2 : ((x : Int) == 127) = false := by simp; omega
  go_enter Tryd.func36, Tryd.ntmps36
  go_wp2
  go_ret
  exact ⟨by rw [HV.out, t1, t2]; rfl, rfl⟩
theorem contains_any (s : ByteArray) (w : World) : Calls Tryd.prog 37 #[.string s, .func (.func 36) #[] #[]] w fun e w' => e = .returned (.bool (decide (0 ≤ Lib.idxFunc badR true s))) ∧ Mod (fun _ => False) w w' :=
  (Tryd.strings_ContainsFunc_runes 36 #[] (enters_of Tryd.func36 (by kernel_rfl) rfl) badR s w (fun W x _ _ => (bad_any x W).mono fun _ _ h => ⟨h.1, 0, h.2⟩)).mono fun _ _ h => ⟨h.1, Mod.of_below h.2⟩
theorem toList_beq (a b : ByteArray) : (a.toList == b.toList) = decide (a.data.toList = b.data.toList) := by
  rw [ByteArray.toList_eq, ByteArray.toList_eq]
  rw [Bool.eq_iff_iff, beq_iff_eq, decide_eq_true_eq]
theorem empty_beq (s : ByteArray) : s.toList.isEmpty = decide (s.size = 0) := by
  rw [ByteArray.toList_eq, Bool.eq_iff_iff, List.isEmpty_iff, decide_eq_true_eq, ← List.length_eq_zero_iff, Array.length_toList]
  exact Iff.rfl


set_option maxHeartbeats 1000000 in
set_option maxRecDepth 100000 in
theorem name_any (s : ByteArray) (w : World) (hs : s.size ≤ 9223372036854775807) (hT : Tabs w) :
    Calls Tryd.prog 22 #[.string s] w fun e w' => e = .returned (.int .i64 (if nameOk s = true then 0 else 183)) ∧ Mod (fun _ => False) w w' := by
  have hV := fun U => valid_any s U hs
  have hC := fun U => contains_any s U
  have hI := @idx_valid s
  have hz : s.data.toList.length = s.size := Array.length_toList
  have hF : Hid ((s.size = 0 ∨ 55 < s.size ∨ s.data.toList = [46] ∨ s.data.toList = [46, 46] ∨ Lib.validD s.data.toList = false ∨ s.data.toList.any badB = true) → (if nameOk s = true then (0 : Int) else 183) = 183) := by
    intro h
    rw [if_neg]
    intro hn
    unfold nameOk at hn
    simp only [Bool.and_eq_true, decide_eq_true_eq] at hn
    obtain ⟨⟨n1, n2, n3, n4⟩, n5, n6⟩ := hn
    rcases h with h | h | h | h | h | h
    · omega
    · omega
    · exact n3 h
    · exact n4 h
    · rw [h] at n5; cases n5
    · rw [h] at n6; cases n6
  have hG : Hid (¬(s.size = 0 ∨ 55 < s.size ∨ s.data.toList = [46] ∨ s.data.toList = [46, 46] ∨ Lib.validD s.data.toList = false ∨ s.data.toList.any badB = true) → (if nameOk s = true then (0 : Int) else 183) = 0) := by
    intro h
    simp only [not_or] at h
    obtain ⟨h1, h2, h3, h4, h5, h6⟩ := h
    rw [if_pos]
    unfold nameOk
    simp only [Bool.and_eq_true, decide_eq_true_eq]
    exact ⟨⟨by omega, by omega, h3, h4⟩, by simpa using h5, by simpa using h6⟩
  generalize (if nameOk s = true then (0 : Int) else 183) = R at *
  clear hz
  have e0 := empty_beq s
  have e1 := toList_beq s (bs [46])
  have e2 := toList_beq s (bs [46, 46])
  rw [bs_data, show (bs [46]).toList = [46] from by rw [ByteArray.toList_eq]; rfl] at e1
  rw [bs_data, show (bs [46, 46]).toList = [46, 46] from by rw [ByteArray.toList_eq]; rfl] at e2
  generalize Lib.validD s.data.toList = vd at *
  by_cases c0 : s.size = 0
  · rw [decide_eq_true c0] at e0
    clear hV hC hI hG e1 e2
    go_enter Tryd.func22, Tryd.ntmps22
    go_wp2
    go_ret
    exact ⟨by rw [hF.out (Or.inl c0)]; rfl, Mod.refl _ _⟩
  rw [decide_eq_false c0] at e0
  by_cases c1 : 55 < s.size
  · have t1 : decide ((55 : Int) < (s.size : Int)) = true := by simp; omega
    clear hV hC hI hG e1 e2
    go_enter Tryd.func22, Tryd.ntmps22
    go_wp2
    go_ret
    exact ⟨by rw [hF.out (Or.inr (Or.inl c1))]; rfl, Mod.refl _ _⟩
  have t1 : decide ((55 : Int) < (s.size : Int)) = false := by simp; omega
  by_cases c2 : s.data.toList = [46]
  · rw [decide_eq_true c2] at e1
    clear hV hC hI hG e2
    go_enter Tryd.func22, Tryd.ntmps22
    go_wp2
    go_ret
    exact ⟨by rw [hF.out (Or.inr (Or.inr (Or.inl c2)))]; rfl, Mod.refl _ _⟩
  rw [decide_eq_false c2] at e1
  by_cases c3 : s.data.toList = [46, 46]
  · rw [decide_eq_true c3] at e2
    clear hV hC hI hG
    go_enter Tryd.func22, Tryd.ntmps22
    go_wp2
    go_ret
    exact ⟨by rw [hF.out (Or.inr (Or.inr (Or.inr (Or.inl c3))))]; rfl, Mod.refl _ _⟩
  rw [decide_eq_false c3] at e2
  cases vd with
  | false =>
    clear hC hI hG
    go_enter Tryd.func22, Tryd.ntmps22
    go_wp2_with fail
    refine (hV _ hT).mono ?_
    rintro e w1 ⟨rfl, m1⟩
    go_wp2
    go_ret
    exact ⟨by rw [hF.out (by simp)]; rfl, m1⟩
  | true =>
    have hI := hI rfl
    rw [hI] at hC
    clear hI
    cases hb : s.data.toList.any badB with
    | true =>
      rw [hb] at hC
      clear hG
      go_enter Tryd.func22, Tryd.ntmps22
      go_wp2_with fail
      refine (hV _ hT).mono ?_
      rintro e w1 ⟨rfl, m1⟩
      go_wp2_with fail
      refine (hC _).mono ?_
      rintro e w2 ⟨rfl, m2⟩
      go_wp2
      go_ret
      exact ⟨by rw [hF.out (Or.inr (Or.inr (Or.inr (Or.inr (Or.inr hb)))))]; rfl, m1.trans m2⟩
    | false =>
      rw [hb] at hC
      clear hF
      have hG := hG.out (by rw [hb]; simp only [Bool.false_eq_true, or_false]; intro h; rcases h with h | h | h | h | h <;> first | exact c0 h | exact c1 h | exact c2 h | exact c3 h | cases h)
      subst hG
      clear c0 c1 c2 c3 hb
      go_enter Tryd.func22, Tryd.ntmps22
      go_wp2_with fail
      refine (hV _ hT).mono ?_
      rintro e w1 ⟨rfl, m1⟩
      go_wp2_with fail
      refine (hC _).mono ?_
      rintro e w2 ⟨rfl, m2⟩
      go_wp2
      go_ret
      exact ⟨rfl, m1.trans m2⟩
end Go.Proofs.YtfkmfllhlhefdaaDoor
