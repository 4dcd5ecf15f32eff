/- The document's plain. -/
import Derived.Test.YtklpopmjpgdjnaaGreatDoorQRefFl
set_option linter.unusedVariables false
set_option linter.unusedSimpArgs false
namespace Go.Proofs.YtklpopmjpgdjnaaGreatDoor
open Go.RowKit

theorem hasZ_iff (s : ByteArray) : hasZ s = true ↔ ∃ k, ∃ h : k < s.size, s.data[k] = 0 := by
  unfold hasZ
  rw [decide_eq_true_eq]
  have hge := Lib.indexByte_ge s.data.toList 0
  constructor
  · intro h
    obtain ⟨o, ho⟩ : ∃ o : Nat, Lib.indexByte s.data.toList 0 = o := ⟨(Lib.indexByte s.data.toList 0).toNat, by omega⟩
    have := (Lib.indexByte_some ho).1
    obtain ⟨h1, h2⟩ := List.getElem?_eq_some_iff.1 this
    exact ⟨o, by rw [Array.length_toList] at h1; exact h1, by rw [Array.getElem_toList] at h2; exact h2⟩
  · rintro ⟨k, hk, h0⟩
    rcases (by omega : Lib.indexByte s.data.toList 0 = -1 ∨ 0 ≤ Lib.indexByte s.data.toList 0) with h | h
    · exfalso
      refine Lib.indexByte_none h k ?_
      rw [List.getElem?_eq_getElem (by rw [Array.length_toList]; exact hk), Array.getElem_toList, h0]
    · exact h
set_option maxHeartbeats 4000000 in
set_option maxRecDepth 100000 in
theorem rplain24_any (m : Msg) (vn vq : Value) (P : Nat → Prop) (w : World) (hs : m.Small) (hn : SlAt w P vn (m.names.map .string)) (hT : Tabs w) :
    Calls Tryz.prog 36 #[.agg (m.cells vn vq).toArray] w fun e w' => e = .returned (.bool (plainM m)) ∧ Mod (fun _ => False) w w' := by
  obtain ⟨W, hW⟩ : ∃ W, w.alloc (.cells (m.cells vn vq).toArray 33) = W := ⟨_, rfl⟩
  have hb : W.heap[w.heap.size]? = some (msgO m vn vq) := by subst hW; exact new_at _ _
  have m0 : Mod (fun _ => False) w W := by subst hW; exact (Mod.refl _ w).alloc _
  have hrg : W.rangeAt w.heap.size 0 (m.cells vn vq) := fun j u hu => by rw [Nat.zero_add, cell_of hb, List.getElem?_toArray]; exact hu
  have hlen : (m.cells vn vq).length = 36 := rfl
  have hTx := texts24_any m vn vq P W hs.nl (hn.mod m0 fun _ _ _ x => x)
  have hV : Hid (plainM m = (m.nine ++ m.names).all okT) := by show _ = _; rw [List.all_append]; rfl
  have hSm : ∀ s ∈ m.nine ++ m.names, s.size ≤ 262144 := by
    intro s h
    rcases List.mem_append.1 h with h | h
    · simp only [Msg.nine, List.mem_cons, List.not_mem_nil, or_false] at h
      rcases h with rfl | rfl | rfl | rfl | rfl | rfl | rfl | rfl | rfl
      · exact hs.version
      · exact hs.uname
      · exact hs.aname
      · exact hs.ename
      · exact hs.name
      · exact hs.st.1
      · exact hs.st.2.1
      · exact hs.st.2.2.1
      · exact hs.st.2.2.2
    · exact hs.names s h
  have hLl : (m.nine ++ m.names).length ≤ 1000009 := by rw [List.length_append]; have := hs.nl; show 9 + _ ≤ _; omega
  generalize m.nine ++ m.names = L at *
  have M0 := Lib.hid m0
  have HT := Lib.hid (hT.mod m0)
  clear hb m0 hT hn
  go_enter Tryz.func36, Tryz.ntmps36
  go_wp2_with (first
    | (refine wpList_load_mid rfl 33 (.tmp 1) rfl w.heap.size 0 rfl (m.cells vn vq) _ hrg Tryz.underlying33 rfl (by kernel_rfl) ?_)
    | (go_at_call 80; refine hTx.mono ?_; rintro e w1 ⟨v, rfl, hsl, m1⟩; have hfm := hsl.form; rw [List.length_map] at hfm; obtain ⟨a, c, rfl, hc, hx⟩ := hfm; have M1 := Lib.hid m1; clear hTx hrg m1 hsl hW))
  go_loopw [4, 5] (fun i _ wr => ∃ j : Nat, j ≤ L.length ∧ i = .int .i64 j ∧ Hid (∀ s ∈ L.take j, okT s = true) ∧ Hid (Mod (fun _ => False) w1 wr)) (fun i _ _ => L.length - (intOf i).toNat)
  case atStart => exact ⟨0, Nat.zero_le _, rfl, Lib.hid (fun s h => by simp at h), Lib.hid (Mod.refl _ _)⟩
  case round =>
    obtain ⟨j, hj, rfl, HJ, MM⟩ := hrel
    by_cases hjl : j < L.length
    · obtain ⟨g, off, rfl, _, hgl, hc0⟩ := hx j _ (strs_get hjl)
      have c0 := keepR MM.out hc0
      have t1 : decide ((j : Int) < (L.length : Int)) = true := by simp; omega
      have j1 : (0 : Int) ≤ (j : Int) := by omega
      have j2 : (j : Int) < (L.length : Int) := by omega
      have hsz := hSm _ (List.getElem_mem hjl)
      have hmem := List.getElem_mem hjl
      have HS := Lib.hid (show L.take (j + 1) = L.take j ++ [L[j]] from List.take_succ_eq_append_getElem hjl)
      generalize L[j] = s at *
      have hVd := valid_any s wr (by omega) ((HT.out.mod M1.out).mod MM.out)
      have HN : Hid (okT s = false → plainM m = false) := fun h => by
        rw [hV.out]
        exact List.all_eq_false.2 ⟨s, hmem, by rw [h]; simp⟩
      clear hc0
      cases hv : Lib.validD s.data.toList with
      | false =>
        rw [hv] at hVd
        have hF := HN.out (by unfold okT; rw [hv]; rfl)
        clear hv
        go_wp2_with fail
        refine hVd.mono ?_
        rintro e w2 ⟨rfl, m2⟩
        go_wp2
        go_ret
        exact ⟨by rw [hF]; rfl, ((M0.out.trans M1.out).trans MM.out).trans m2⟩
      | true =>
        rw [hv] at hVd
        go_wp2_with fail
        refine hVd.mono ?_
        rintro e w2 ⟨rfl, m2⟩
        have MM2 := Lib.hid (MM.out.trans m2)
        have c0 := keepR m2 c0
        clear hVd m2
        go_wp2
        go_loopw [5] (fun i wr => ∃ k : Nat, k ≤ s.size ∧ i = .int .i64 k ∧ Hid (∀ x, (h : x < s.size) → x < k → s.data[x] ≠ 0) ∧ wr = w2) (fun i _ => s.size - (intOf i).toNat)
        case atStart => exact ⟨0, Nat.zero_le _, rfl, Lib.hid (fun x h h2 => by omega), rfl⟩
        case round =>
          obtain ⟨k, hk, rfl, HK, rfl⟩ := hrel
          by_cases hkl : k < s.size
          · have t2 : decide ((k : Int) < (s.size : Int)) = true := by simp; omega
            have k1 : (0 : Int) ≤ (k : Int) := by omega
            have k2 : (k : Int) < (s.size : Int) := by omega
            by_cases h0 : s.data[k] = 0
            · have q : ((s[k].toNat : Int) == 0) = true := by
                rw [show s[k] = 0 from h0]; rfl
              have hF := HN.out (by unfold okT; rw [hv, (hasZ_iff s).2 ⟨k, hkl, h0⟩]; rfl)
              go_wp2
              go_ret
              exact ⟨by rw [hF]; rfl, (M0.out.trans M1.out).trans MM2.out⟩
            · have q : ((s[k].toNat : Int) == 0) = false := by
                have h1 : s[k].toNat ≠ 0 := fun e => h0 (UInt8.toNat_inj.1 e)
                rw [beq_eq_false_iff_ne]
                omega
              have HK2 : Hid (∀ x, (h : x < s.size) → x < k + 1 → s.data[x] ≠ 0) := fun x h h2 => by
                by_cases e : x = k
                · subst e; exact h0
                · exact HK.out x h (by omega)
              clear h0
              go_wp2
              go_roundw
              case rel => exact ⟨k + 1, hkl, by go_num, HK2, trivial⟩
              case measure => simp [intOf]; omega
          · obtain rfl : k = s.size := by omega
            have t2 : decide ((s.size : Int) < (s.size : Int)) = false := by simp
            have hz : hasZ s = false := by
              cases h : hasZ s with
              | false => rfl
              | true =>
                obtain ⟨x, h1, h2⟩ := (hasZ_iff s).1 h
                exact absurd h2 (HK.out x h1 h1)
            have HJ2 : Hid (∀ s ∈ L.take (j + 1), okT s = true) := by
              rw [HS.out]
              intro x hx
              rcases List.mem_append.1 hx with h | h
              · exact HJ.out x h
              · rw [List.mem_singleton.1 h]; unfold okT; rw [hv, hz]; rfl
            clear hz hv HK
            go_wp2
            go_roundw
            case rel => exact ⟨j + 1, hjl, by go_num, HJ2, MM2⟩
            case measure => simp [intOf]; omega
    · obtain rfl : j = L.length := by omega
      have t1 : decide ((L.length : Int) < (L.length : Int)) = false := by simp
      have HF : Hid (plainM m = true) := by
        show _ = _
        rw [hV.out]
        have h := HJ.out
        rw [List.take_length] at h
        exact List.all_eq_true.2 h
      go_wp2
      go_ret
      exact ⟨by rw [HF.out]; rfl, (M0.out.trans M1.out).trans MM.out⟩
end Go.Proofs.YtklpopmjpgdjnaaGreatDoor
