/- Package slices' IndexFunc and DeleteFunc over waits. -/
import Derived.Test.YtcadkaedahoefaaFidDel2
namespace Go.Proofs.Ytcadkaedahoefaa
open Go.RowKit

def tellN (tag : Nat) (L : List (Nat × Nat)) (T : List Nat) (j : Nat) : List Nat := T ++ ((L.take j).filter (toldS tag)).map Prod.fst
theorem tellN_zero (tag : Nat) (L : List (Nat × Nat)) (T : List Nat) : tellN tag L T 0 = T := by unfold tellN; simp
theorem tellN_succ {tag : Nat} {L : List (Nat × Nat)} {T : List Nat} {j : Nat} (h : j < L.length) : tellN tag L T (j + 1) = tellS tag L[j] (tellN tag L T j) := by
  unfold tellN tellS
  rw [filter_step _ h, List.map_append, List.append_assoc]
  congr 2
  split <;> rfl
theorem tellN_len {tag : Nat} {L : List (Nat × Nat)} {T : List Nat} (j : Nat) : (tellN tag L T j).length ≤ T.length + L.length := by
  unfold tellN
  rw [List.length_append, List.length_map]
  have h1 := List.length_filter_le (toldS tag) (L.take j)
  rw [List.length_take] at h1
  omega
theorem told_gone {tag : Nat} {p : Nat × Nat} (h : goneS tag p = false) : toldS tag p = false := by
  unfold goneS at h
  unfold toldS
  simp only [Bool.or_eq_false_iff] at h
  rw [h.1]; rfl
theorem tell_same {tag : Nat} {p : Nat × Nat} (h : goneS tag p = false) (T : List Nat) : tellS tag p T = T := by
  unfold tellS
  rw [told_gone h]
  simp
theorem wts_drop {L : List (Nat × Nat)} {j : Nat} (h : j < L.length) : wts (L.drop j) = [.int .u16 L[j].1, .int .u16 L[j].2] ++ wts (L.drop (j + 1)) := by
  rw [List.drop_eq_getElem_cons h]; rfl
theorem wts_at {w : World} {g cap : Nat} {L : List (Nat × Nat)} {j : Nat} {A : List Value} {hi : Nat} (h : RowD w g (cap * 2) A hi (wts (L.drop j))) (hj : j < L.length) :
    w.cell? ⟨g, hi, none⟩ = some (.int .u16 L[j].1) ∧ w.cell? ⟨g, hi + 1, none⟩ = some (.int .u16 L[j].2) := by
  rw [wts_drop hj] at h
  have h0 := h.up 0 _ rfl
  have h1 := h.up 1 _ rfl
  exact ⟨h0, h1⟩
set_option maxHeartbeats 2000000 in
set_option maxRecDepth 100000 in
theorem indexw_any (g vc : Nat) (L : List (Nat × Nat)) (bt bd tag : Nat) (T : List Nat) (W : World) (h : RowD W g (vc * 2) [] 0 (wts L)) (hgb : g < bd) (hvc : L.length ≤ vc) (hL : T.length + L.length ≤ 1000000) (hT : ToldAt W bt bd tag T) :
    Calls Try.prog 42 #[.slice (some ⟨g, 0, none⟩) L.length vc, .func (.func 34) #[] #[.pointer (some ⟨bt, 0, none⟩), .pointer (some ⟨bd, 0, none⟩)]] W fun e w' =>
      ((e = .returned (.int .i64 (-1)) ∧ (∀ p ∈ L, goneS tag p = false) ∧ ToldAt w' bt bd tag T) ∨ ∃ i : Nat, e = .returned (.int .i64 i) ∧ ∃ hi : i < L.length, goneS tag L[i] = true ∧ (∀ p ∈ L.take i, goneS tag p = false) ∧ ToldAt w' bt bd tag (tellS tag L[i] T)) ∧ Mod (fun k => bd ≤ k) W w' := by
  have HRow := Lib.hid h
  have HTo := Lib.hid hT
  clear h hT
  go_enter Try.func42, Try.ntmps42
  go_wp2
  go_loopw [4, 8] (fun r i wr => ∃ j : Nat, j ≤ L.length ∧ r = .int .i64 0 ∧ i = .int .i64 j ∧ Hid (∀ p ∈ L.take j, goneS tag p = false) ∧ Hid (ToldAt wr bt bd tag T) ∧ Hid (Mod (fun k => bd ≤ k) W wr)) (fun _ i _ => L.length - (intOf i).toNat)
  case atStart => exact ⟨0, by omega, rfl, rfl, fun y hy => (by simp at hy), HTo, Mod.refl _ _⟩
  case round =>
    obtain ⟨j, hj, rfl, rfl, HA, HTr, HM⟩ := hrel
    by_cases hjl : j < L.length
    · have t5 : decide ((j : Int) < (L.length : Int)) = true := by simp; omega
      have j1 : (0 : Int) ≤ (j : Int) := by omega
      have j2 : (j : Int) < (L.length : Int) := by omega
      have j3 : (L.length : Int) ≤ (vc : Int) := by omega
      have hr := HRow.out.mod HM.out (by omega)
      have hst : RowD wr g (vc * 2) [] (j * 2) (wts (L.drop j)) := by
        rw [← List.take_append_drop j L, wts_append] at hr
        have := hr.skip
        rw [Nat.zero_add, wts_length, List.length_take, Nat.min_eq_left hj] at this
        exact this
      obtain ⟨c0, c1⟩ := wts_at hst hjl
      have hstep : L.take (j + 1) = L.take j ++ [L[j]] := List.take_succ_eq_append_getElem hjl
      have HR : Hid (goneS tag L[j] = true → ∃ hi : j < L.length, goneS tag L[j] = true ∧ ∀ p ∈ L.take j, goneS tag p = false) := fun h => ⟨hjl, h, HA.out⟩
      have hE := (end2_any bt bd L[j].1 L[j].2 tag T wr HTr.out (by omega)).mono (fun e w' h => (⟨h.1, h.2.1, h.2.2.mono fun k _ hk => (toldF_lt HTr.out hk).1⟩ : e = .returned (.bool (goneS tag (L[j].1, L[j].2))) ∧ ToldAt w' bt bd tag (tellS tag (L[j].1, L[j].2) T) ∧ Mod (fun k => bd ≤ k) wr w'))
      have htl := fun (h : goneS tag L[j] = false) => tell_same h T
      obtain ⟨e, he⟩ : ∃ e, L[j] = e := ⟨_, rfl⟩
      rw [he] at c0 c1 hstep hE htl
      obtain ⟨x, y⟩ := e
      simp only at c0 c1 hE
      have HEq := Lib.hid he
      clear hr hst he
      by_cases hg : goneS tag (x, y) = true
      · rw [hg] at hE
        have HR2 : Hid (∃ hi : j < L.length, goneS tag L[j] = true ∧ ∀ p ∈ L.take j, goneS tag p = false) := HR.out (by rw [HEq.out]; exact hg)
        clear hstep HR hg htl
        go_wp2_with fail
        refine hE.mono ?_
        rintro e w1 ⟨rfl, hT1, m1⟩
        have HT1 := Lib.hid hT1
        have HM1 := Lib.hid (HM.out.trans m1)
        clear hT1 m1
        go_wp2
        go_ret
        obtain ⟨q1, q2, q3⟩ := HR2.out
        exact ⟨Or.inr ⟨j, rfl, q1, q2, q3, by rw [HEq.out]; exact HT1.out⟩, HM1.out⟩
      · have hg : goneS tag (x, y) = false := by simpa using hg
        rw [hg, htl hg] at hE
        have HA2 : Hid (∀ z ∈ L.take (j + 1), goneS tag z = false) := by
          rw [hstep]
          intro z hz
          rcases List.mem_append.1 hz with h | h
          · exact HA.out z h
          · rw [List.mem_singleton.1 h]; exact hg
        clear hstep HR hg htl
        go_wp2_with fail
        refine hE.mono ?_
        rintro e w1 ⟨rfl, hT1, m1⟩
        have HT1 := Lib.hid hT1
        have HM1 := Lib.hid (HM.out.trans m1)
        clear hT1 m1
        go_wp2
        go_roundw
        case rel => exact ⟨j + 1, hjl, rfl, by go_num, HA2, HT1, HM1⟩
        case measure => simp [intOf]; omega
    · obtain rfl : j = L.length := by omega
      have t5 : decide ((L.length : Int) < (L.length : Int)) = false := by simp
      have hHA := HA.out
      rw [List.take_length] at hHA
      have HR := Lib.hid hHA
      clear hHA
      go_wp2
      go_ret
      exact ⟨Or.inl ⟨rfl, HR.out, HTr.out⟩, HM.out⟩
end Go.Proofs.Ytcadkaedahoefaa
