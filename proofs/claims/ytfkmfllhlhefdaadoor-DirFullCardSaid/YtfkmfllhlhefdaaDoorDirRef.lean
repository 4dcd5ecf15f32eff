/- The document's directories: names, slots. -/
import Derived.Test.YtfkmfllhlhefdaaDoorDirName
import Derived.Test.YtfkmfllhlhefdaaDoorDirSlot
import Derived.Test.YtfkmfllhlhefdaaDoorPDirOps
namespace Go.Proofs.YtfkmfllhlhefdaaDoor
open Go.RowKit

theorem brow_push {w : World} {g k : Nat} {T : List UInt8} {b : UInt8} {e : TypeId} {v : Value} (h : BRow w g (T.take k ++ zeros (64 - k)) e) (hk : k < 64) (hT : T.length = 64) (hb : T[k]? = some b) (hv : v = .int .u8 (b.toNat : Int)) :
    BRow (w.setCell ⟨g, k, none⟩ v) g (T.take (k + 1) ++ zeros (64 - (k + 1))) e := by
  unfold BRow at h ⊢
  rw [heap_set h k v]
  congr 2
  rw [List.setIfInBounds_toArray]
  congr 1
  have e1 : zeros (64 - k) = 0 :: zeros (64 - (k + 1)) := by
    unfold zeros
    rw [show 64 - k = (64 - (k + 1)) + 1 from by omega, List.replicate_succ]
  have e2 : T.take (k + 1) = T.take k ++ [b] := by rw [List.take_add_one, hb]; rfl
  rw [e1, e2]
  simp only [bc, List.map_append, List.map_cons, List.map_nil]
  rw [List.set_append_right _ _ (by rw [List.length_map, List.length_take]; omega)]
  have : k - (List.map (fun b : UInt8 => Value.int .u8 (b.toNat : Int)) (T.take k)).length = 0 := by rw [List.length_map, List.length_take]; omega
  rw [this, List.set_cons_zero, hv]
  simp
theorem slotL_length {p : Nat} {n : ByteArray} (h : n.size ≤ 55) : (slotL p n).length = 64 := by
  have := slotB_size (p := p) h
  rwa [slotB, bs_size] at this
theorem slotL_lo {p : Nat} {n : ByteArray} {k : Nat} (hk : k < 8) : ∃ b, (slotL p n)[k]? = some b ∧ b.toNat = p / 2 ^ (8 * k) % 256 := by
  have h2 : k < (leBytes 8 p).length := by rw [leBytes_length]; exact hk
  refine ⟨(leBytes 8 p)[k], ?_, leBytes_get 8 p k h2⟩
  unfold slotL
  rw [List.getElem?_append_left h2, List.getElem?_eq_getElem h2]
theorem slotL_8 {p : Nat} {n : ByteArray} (hn : n.size ≤ 55) : ∃ b, (slotL p n)[8]? = some b ∧ b.toNat = n.size := by
  have h2 : 0 < (leBytes 1 n.size).length := by rw [leBytes_length]; decide
  refine ⟨(leBytes 1 n.size)[0], ?_, ?_⟩
  · unfold slotL
    rw [List.getElem?_append_right (by rw [leBytes_length]; exact Nat.le_refl _), leBytes_length, Nat.sub_self, List.getElem?_append_left h2, List.getElem?_eq_getElem h2]
  · rw [leBytes_get 1 n.size 0 h2]
    simp
    omega
theorem slotL_name {p : Nat} {n : ByteArray} {j : Nat} (hj : j < n.size) : (slotL p n)[9 + j]? = some n.data[j] := by
  have hl : j < n.data.toList.length := by rw [Array.length_toList]; exact hj
  unfold slotL
  rw [List.getElem?_append_right (by rw [leBytes_length]; omega), leBytes_length, List.getElem?_append_right (by rw [leBytes_length]; omega), leBytes_length, show 9 + j - 8 - 1 = j from by omega,
    List.getElem?_append_left hl, List.getElem?_eq_getElem hl, Array.getElem_toList]
theorem slotL_end {p : Nat} {n : ByteArray} (hn : n.size ≤ 55) : (slotL p n).take (9 + n.size) ++ zeros (64 - (9 + n.size)) = slotL p n := by
  have hz : n.data.toList.length = n.size := Array.length_toList
  unfold slotL
  rw [← List.append_assoc, ← List.append_assoc]
  rw [List.take_append_of_le_length (by simp only [List.length_append, leBytes_length, hz]; omega)]
  rw [List.take_of_length_le (by simp only [List.length_append, leBytes_length, hz]; omega)]
  rw [show 64 - (9 + n.size) = 55 - n.size from by omega]

set_option maxHeartbeats 1000000 in
theorem rfree_any (w : World) : Calls Tryd.prog 28 #[] w fun e w' => e = .returned (.string freeB) ∧ Mod (fun _ => False) w w' := by
  have hmk := make_row (P := Tryd.prog) 31 5 (.int .u8 0) 1 64 Tryd.underlying31 info_byte rfl (by omega) (by unfold maxLen; omega)
  rw [bc_zeros] at hmk
  have hz := conv_new (P := Tryd.prog) 31 9 5 64 (List.replicate 64 0) (by rw [List.length_replicate]) Tryd.underlying31 Tryd.underlying5 Tryd.underlying9
  have hV : Hid (freeB = bs (List.replicate 64 0)) := rfl
  obtain ⟨fb, hfb⟩ : ∃ fb, bs (List.replicate 64 0) = fb := ⟨_, rfl⟩
  rw [hfb] at hz hV
  generalize (bc (List.replicate 64 0)).toArray = arr at *
  rw [show ((64 : Nat) : Int) = 64 from rfl] at hmk
  clear hfb
  go_enter Tryd.func28, Tryd.ntmps28
  go_wp2
  go_ret
  exact ⟨by rw [hV.out]; rfl, (Mod.refl _ _).alloc _⟩
set_option maxHeartbeats 1000000 in
set_option maxRecDepth 100000 in
theorem rslot_any (p : Nat) (n : ByteArray) (w : World) (_hp : p < 18446744073709551616) (hn : n.size ≤ 55) : Calls Tryd.prog 34 #[.int .u64 p, .string n] w fun e w' => e = .returned (.string (slotB p n)) ∧ Mod (fun _ => False) w w' := by
  have hmk := make_row (P := Tryd.prog) 31 5 (.int .u8 0) 1 64 Tryd.underlying31 info_byte rfl (by omega) (by unfold maxLen; omega)
  rw [show ((64 : Nat) : Int) = 64 from rfl] at hmk
  have hT := slotL_length (p := p) hn
  have hlo := fun k (hk : k < 8) => slotL_lo (p := p) (n := n) hk
  obtain ⟨b8, h8, h8v⟩ := slotL_8 (p := p) hn
  have hnm := fun j (hj : j < n.size) => slotL_name (p := p) (n := n) hj
  have hend := slotL_end (p := p) hn
  have hV : Hid (slotB p n = bs (slotL p n)) := rfl
  generalize slotL p n = T at *
  obtain ⟨W0, hW0⟩ : ∃ W0, w.alloc (.cells (List.replicate 64 (.int .u8 0)).toArray 5) = W0 := ⟨_, rfl⟩
  have R0 : BRow W0 w.heap.size (T.take 0 ++ zeros (64 - 0)) 5 := by
    have := new_at w (.cells (List.replicate 64 (.int .u8 0)).toArray 5)
    rw [hW0, bc_zeros] at this
    exact this
  have m0 : Mod (fun _ => False) w W0 := by subst hW0; exact (Mod.refl _ _).alloc _
  have hmk1 := hmk w
  rw [hW0] at hmk1
  clear hW0 hmk
  have HLO := Lib.hid hlo
  have HEND := Lib.hid hend
  clear hlo hend
  go_enter Tryd.func34, Tryd.ntmps34
  go_wp2
  go_loopw [6] (fun i wr => ∃ k : Nat, k ≤ 8 ∧ i = .int .i64 k ∧ Hid (BRow wr w.heap.size (T.take k ++ zeros (64 - k)) 5) ∧ Hid (Mod (fun _ => False) w wr)) (fun i _ => 8 - (intOf i).toNat)
  case atStart => exact ⟨0, by omega, rfl, R0, m0⟩
  case round =>
    obtain ⟨k, hk, rfl, HB, HM⟩ := hrel
    by_cases hlt : k < 8
    · have hc := HB.out.cell k (by rw [List.length_append, List.length_take, zeros_length]; omega)
      have hf : wr.frozen? ⟨w.heap.size, k, none⟩ = false := free_of HB.out k
      generalize ((T.take k ++ zeros (64 - k))[k]'(by rw [List.length_append, List.length_take, zeros_length]; omega)).toNat = old at hc
      go_wp2
      go_roundw
      case rel =>
        refine ⟨k + 1, hlt, by go_num, ?_, HM.out.setCell (Or.inr (Nat.le_refl _)) _⟩
        obtain ⟨b, hb1, hb2⟩ := HLO.out k hlt
        refine brow_push HB.out (by omega) hT hb1 ?_
        rw [hb2]
        congr 1
      case measure => simp [intOf]; omega
    · obtain rfl : k = 8 := by omega
      have hc := HB.out.cell 8 (by rw [List.length_append, List.length_take, zeros_length]; omega)
      have hf : wr.frozen? ⟨w.heap.size, 8, none⟩ = false := free_of HB.out 8
      generalize ((T.take 8 ++ zeros (64 - 8))[8]'(by rw [List.length_append, List.length_take, zeros_length]; omega)).toNat = old at hc
      have hw : IntKind.u8.wrap (n.size : Int) = n.size := by rw [IntKind.wrap_u8]; omega
      have hB2 : Hid (BRow (wr.setCell ⟨w.heap.size, 8, none⟩ (.int .u8 n.size)) w.heap.size (T.take (9 + 0) ++ zeros (64 - (9 + 0))) 5) := brow_push HB.out (by omega) hT h8 (by rw [h8v])
      have hM2 : Hid (Mod (fun _ => False) w (wr.setCell ⟨w.heap.size, 8, none⟩ (.int .u8 n.size))) := HM.out.setCell (Or.inr (Nat.le_refl _)) _
      clear hk hlt HB HM
      go_wp2
      generalize wr.setCell ⟨w.heap.size, 8, none⟩ (.int .u8 n.size) = w2 at *
      clear hc hf h8
      go_loopw [7] (fun i wq => ∃ k : Nat, k ≤ n.size ∧ i = .int .i64 k ∧ Hid (BRow wq w.heap.size (T.take (9 + k) ++ zeros (64 - (9 + k))) 5) ∧ Hid (Mod (fun _ => False) w wq)) (fun i _ => n.size - (intOf i).toNat)
      case atStart => exact ⟨0, by omega, rfl, hB2, hM2⟩
      case round =>
        obtain ⟨k, hk, rfl, HB, HM⟩ := hrel
        by_cases hlt : k < n.size
        · have hc := HB.out.cell (9 + k) (by rw [List.length_append, List.length_take, zeros_length]; omega)
          have hf : wr.frozen? ⟨w.heap.size, 9 + k, none⟩ = false := free_of HB.out (9 + k)
          generalize ((T.take (9 + k) ++ zeros (64 - (9 + k)))[9 + k]'(by rw [List.length_append, List.length_take, zeros_length]; omega)).toNat = old at hc
          have hw9 : IntKind.i64.wrap (9 + (k : Int)) = ((9 + k : Nat) : Int) := by rw [IntKind.wrap_i64]; omega
          have hb := hnm k hlt
          have HNM := Lib.hid hnm
          clear hnm
          go_wp2
          go_roundw
          case rel => exact ⟨k + 1, hlt, by go_num, brow_push HB.out (by omega) hT hb rfl, HM.out.setCell (Or.inr (Nat.le_refl _)) _⟩
          case measure => simp [intOf]; omega
        · obtain rfl : k = n.size := by omega
          have hB := HB.out
          rw [HEND.out] at hB
          have hcv := conv_row (P := Tryd.prog) (w := wr) 31 9 5 w.heap.size 64 64 T hB hT.symm Tryd.underlying31 Tryd.underlying5 Tryd.underlying9
          have hnm := Lib.hid hnm
          generalize bs T = rt at *
          go_wp2
          go_ret
          exact ⟨by rw [hV.out]; rfl, HM.out⟩

theorem badB_val (b : UInt8) : badB b = (decide ((b.toNat : Int) < 32) || (((b.toNat : Int) == 127) || ((b.toNat : Int) == 47))) := by
  unfold badB
  congr 1
  · simp; omega
  · congr 1 <;> (rw [Bool.eq_iff_iff]; simp; omega)
set_option maxHeartbeats 1000000 in
set_option maxRecDepth 100000 in
theorem rname_any (s : ByteArray) (w : World) (hs : s.size ≤ 1099511627776) (hT : Tabs w) :
    Calls Tryd.prog 9 #[.string s] w fun e w' => e = .returned (.bool (nameOk s)) ∧ Mod (fun _ => False) w w' := by
  have hV := fun U => valid_any s U (by omega)
  have hz : s.data.toList.length = s.size := Array.length_toList
  have hF : Hid ((s.size = 0 ∨ 55 < s.size ∨ s.data.toList = [46] ∨ s.data.toList = [46, 46] ∨ Lib.validD s.data.toList = false ∨ s.data.toList.any badB = true) → nameOk s = false) := by
    intro h
    rw [← Bool.not_eq_true]
    intro hn
    unfold nameOk at hn
    simp only [Bool.and_eq_true, decide_eq_true_eq] at hn
    obtain ⟨⟨n1, n2, n3, n4⟩, n5, n6⟩ := hn
    rcases h with h | h | h | h | h | h
    · omega
    · omega
    · exact n3 h
    · exact n4 h
    · rw [h] at n5; cases n5
    · rw [h] at n6; cases n6
  have hG : Hid (¬(s.size = 0 ∨ 55 < s.size ∨ s.data.toList = [46] ∨ s.data.toList = [46, 46] ∨ Lib.validD s.data.toList = false ∨ s.data.toList.any badB = true) → nameOk s = true) := by
    intro h
    simp only [not_or] at h
    obtain ⟨h1, h2, h3, h4, h5, h6⟩ := h
    unfold nameOk
    simp only [Bool.and_eq_true, decide_eq_true_eq]
    exact ⟨⟨by omega, by omega, h3, h4⟩, by simpa using h5, by simpa using h6⟩
  generalize nameOk s = R at *
  clear hz
  have e1 := toList_beq s (bs [46])
  have e2 := toList_beq s (bs [46, 46])
  rw [bs_data, show (bs [46]).toList = [46] from by rw [ByteArray.toList_eq]; rfl] at e1
  rw [bs_data, show (bs [46, 46]).toList = [46, 46] from by rw [ByteArray.toList_eq]; rfl] at e2
  by_cases c0 : s.size = 0
  · have t0 : decide ((s.size : Int) < 1) = true := by simp; omega
    clear hV hG e1 e2
    go_enter Tryd.func9, Tryd.ntmps9
    go_wp2
    go_ret
    exact ⟨by rw [hF.out (Or.inl c0)]; rfl, Mod.refl _ _⟩
  have t0 : decide ((s.size : Int) < 1) = false := by simp; omega
  by_cases c1 : 55 < s.size
  · have t1 : decide ((55 : Int) < (s.size : Int)) = true := by simp; omega
    clear hV hG e1 e2
    go_enter Tryd.func9, Tryd.ntmps9
    go_wp2
    go_ret
    exact ⟨by rw [hF.out (Or.inr (Or.inl c1))]; rfl, Mod.refl _ _⟩
  have t1 : decide ((55 : Int) < (s.size : Int)) = false := by simp; omega
  cases hvd : Lib.validD s.data.toList with
  | false =>
    rw [hvd] at hV
    clear hG
    go_enter Tryd.func9, Tryd.ntmps9
    go_wp2_with fail
    refine (hV _ hT).mono ?_
    rintro e w1 ⟨rfl, m1⟩
    go_wp2
    go_ret
    exact ⟨by rw [hF.out (by simp [hvd])]; rfl, m1⟩
  | true =>
  rw [hvd] at hV
  by_cases c2 : s.data.toList = [46]
  · rw [decide_eq_true c2] at e1
    clear hG e2
    go_enter Tryd.func9, Tryd.ntmps9
    go_wp2_with fail
    refine (hV _ hT).mono ?_
    rintro e w1 ⟨rfl, m1⟩
    go_wp2
    go_ret
    exact ⟨by rw [hF.out (Or.inr (Or.inr (Or.inl c2)))]; rfl, m1⟩
  rw [decide_eq_false c2] at e1
  by_cases c3 : s.data.toList = [46, 46]
  · rw [decide_eq_true c3] at e2
    clear hG
    go_enter Tryd.func9, Tryd.ntmps9
    go_wp2_with fail
    refine (hV _ hT).mono ?_
    rintro e w1 ⟨rfl, m1⟩
    go_wp2
    go_ret
    exact ⟨by rw [hF.out (Or.inr (Or.inr (Or.inr (Or.inl c3))))]; rfl, m1⟩
  rw [decide_eq_false c3] at e2
  have hG2 : Hid (s.data.toList.any badB = false → R = true) := by
    intro hb
    refine hG.out ?_
    rw [hb, hvd]
    simp only [Bool.false_eq_true, or_false, Bool.true_eq_false]
    intro h
    rcases h with h | h | h | h
    · exact c0 h
    · exact c1 h
    · exact c2 h
    · exact c3 h
  have hF : Hid (s.data.toList.any badB = true → R = false) := fun h => hF.out (by simp [h])
  have hany : ∀ k (h : k < s.size), (s.data.toList.take k).any badB = false → (s.data.toList.take (k + 1)).any badB = badB s.data[k] := by
    intro k h hb
    rw [take_snoc s k h, List.any_append, hb]
    simp
  clear c0 c1 c2 c3 hG hvd
  go_enter Tryd.func9, Tryd.ntmps9
  go_wp2_with fail
  refine (hV _ hT).mono ?_
  rintro e w1 ⟨rfl, m1⟩
  go_wp2
  go_loopw [2, 3] (fun r i wr => ∃ k : Nat, k ≤ s.size ∧ r = .bool false ∧ i = .int .i64 k ∧ Hid ((s.data.toList.take k).any badB = false) ∧ Hid (Mod (fun _ => False) w wr)) (fun _ i _ => s.size - (intOf i).toNat)
  case atStart => exact ⟨0, by omega, rfl, rfl, rfl, m1⟩
  case round =>
    obtain ⟨k, hk, rfl, rfl, HP, HM⟩ := hrel
    by_cases hlt : k < s.size
    · have t2 : decide ((k : Int) < (s.size : Int)) = true := by simp; omega
      have HA : Hid ((s.data.toList.take (k + 1)).any badB = badB s.data[k]) := hany k hlt HP.out
      have hbv : badB s.data[k] = (decide ((s[k].toNat : Int) < 32) || (((s[k].toNat : Int) == 127) || ((s[k].toNat : Int) == 47))) := badB_val s.data[k]
      have hall : Hid (badB s.data[k] = true → s.data.toList.any badB = true) := by
        intro hb
        rw [List.any_eq_true]
        exact ⟨s.data[k], by rw [Array.mem_toList_iff]; exact Array.getElem_mem hlt, hb⟩
      by_cases b1 : ((s[k].toNat : Int) < 32)
      · have u1 : decide ((s[k].toNat : Int) < 32) = true := by simp; omega
        have HB : Hid (badB s.data[k] = true) := by show _ = _; rw [hbv, u1]; rfl
        clear hbv hany
        go_wp2
        go_ret
        exact ⟨by rw [hF.out (hall.out HB.out)]; rfl, HM.out⟩
      have u1 : decide ((s[k].toNat : Int) < 32) = false := by simp; omega
      by_cases b2 : ((s[k].toNat : Int) = 127)
      · have u2 : ((s[k].toNat : Int) == 127) = true := by simp; omega
        have HB : Hid (badB s.data[k] = true) := by show _ = _; rw [hbv, u1, u2]; rfl
        clear hbv hany b2
        go_wp2
        go_ret
        exact ⟨by rw [hF.out (hall.out HB.out)]; rfl, HM.out⟩
      have u2 : ((s[k].toNat : Int) == 127) = false := by simp; omega
      by_cases b3 : ((s[k].toNat : Int) = 47)
      · have u3 : ((s[k].toNat : Int) == 47) = true := by simp; omega
        have HB : Hid (badB s.data[k] = true) := by show _ = _; rw [hbv, u1, u2, u3]; rfl
        clear hbv hany b2 b3
        go_wp2
        go_ret
        exact ⟨by rw [hF.out (hall.out HB.out)]; rfl, HM.out⟩
      have u3 : ((s[k].toNat : Int) == 47) = false := by simp; omega
      have HB : Hid ((s.data.toList.take (k + 1)).any badB = false) := by show _ = _; rw [HA.out, hbv, u1, u2, u3]; rfl
      clear hbv hany b1 b2 b3 hall
      go_wp2
      go_roundw
      case rel => exact ⟨k + 1, hlt, rfl, by go_num, HB, HM⟩
      case measure => simp [intOf]; omega
    · obtain rfl : k = s.size := by omega
      have t2 : decide ((s.size : Int) < (s.size : Int)) = false := by simp
      have HR : Hid (R = true) := hG2.out (by have := HP.out; rwa [take_all] at this)
      clear hany
      go_wp2
      go_ret
      exact ⟨by rw [HR.out]; rfl, HM.out⟩
end Go.Proofs.YtfkmfllhlhefdaaDoor
