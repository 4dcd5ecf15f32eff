/- The document's List. -/
import Derived.Test.YtfkmfllhlhefdaaDoorDirRef2
import Derived.Test.YtfkmfllhlhefdaaDoorDirEnts
import Derived.Test.YtfkmfllhlhefdaaDoorDirOps
namespace Go.Proofs.YtfkmfllhlhefdaaDoor
open Go.RowKit

theorem slots_take {s : ByteArray} {k : Nat} (h : k < s.size / 64) : (slotsL s).take (k + 1) = (slotsL s).take k ++ [slotAt s k] := by
  rw [List.take_succ_eq_append_getElem (by rw [slotsL_length]; exact h), slotsL_get]
set_option maxRecDepth 100000 in
set_option maxHeartbeats 2000000 in
theorem rlist_any (s : ByteArray) (w : World) (hs : s.size ≤ 1099511627776) (hT : Tabs w) :
    Calls Tryd.prog 11 #[.string s] w fun e w' => ∃ v, e = .returned (.tuple #[v, .bool (listS s).isSome]) ∧ EntsAt w' (w.heap.size ≤ ·) v ((listS s).getD []) ∧ Mod (fun _ => False) w w' := by
  by_cases hz : s.size % 64 = 0
  case neg =>
    have t1 : ((s.size : Int) % 64 != 0) = true := by simp; omega
    have hl := Lib.hid (listS_bad (s := s) (by omega))
    go_enter Tryd.func11, Tryd.ntmps11
    go_wp2
    go_ret2
    exact ⟨.slice none 0 0, by rw [hl.out]; rfl, by rw [hl.out]; exact RecsAt.nil _ _, Mod.refl _ _⟩
  have t1 : ((s.size : Int) % 64 != 0) = false := by simp; omega
  by_cases hb : 7168 < s.size
  · have t2 : decide (7168 < (s.size : Int)) = true := by simp; omega
    have hl := Lib.hid (listS_bad (s := s) (by omega))
    go_enter Tryd.func11, Tryd.ntmps11
    go_wp2
    go_ret2
    exact ⟨.slice none 0 0, by rw [hl.out]; rfl, by rw [hl.out]; exact RecsAt.nil _ _, Mod.refl _ _⟩
  have t2 : decide (7168 < (s.size : Int)) = false := by simp; omega
  have hbad : Hid (∀ k, goE ((slotsL s).take k) 0 [] = none → listS s = none) := by
    intro k h
    unfold listS
    split
    · exact goE_prefix (List.take_prefix _ _) h
    · rfl
  have hgood : Hid (∀ l, goE ((slotsL s).take (s.size / 64)) 0 [] = some l → listS s = some l) := by
    intro l h
    unfold listS sizeOk
    rw [if_pos (decide_eq_true ⟨hz, by omega⟩)]
    rw [List.take_of_length_le (by rw [slotsL_length]; exact Nat.le_refl _)] at h
    exact h
  go_enter Tryd.func11, Tryd.ntmps11
  go_wp2
  go_loopw [2, 3, 4, 5] (fun a b v i wr => ∃ (k : Nat) (l : List Ent), k ≤ s.size / 64 ∧ a = .slice none 0 0 ∧ b = .bool false ∧ i = .int .i64 k ∧ Hid (goE ((slotsL s).take k) 0 [] = some l) ∧ OwnA wr w.heap.size 3 v l.length (flatE l) ∧ Hid (Mod (fun _ => False) w wr)) (fun _ _ _ i _ => s.size / 64 - (intOf i).toNat)
  case atStart => exact ⟨0, [], by omega, rfl, rfl, rfl, rfl, OwnA.nil _ _ _, Mod.refl _ _⟩
  case round =>
    obtain ⟨k, l, hk, rfl, rfl, rfl, HG, hown, HM⟩ := hrel
    have hK0 : IntKind.i64.wrap ((k : Int) * 64) = ((k * 64 : Nat) : Int) := by rw [IntKind.wrap_i64]; omega
    have hLl := goE_len _ _ HG.out
    rw [List.length_take, slotsL_length, List.length_nil, Nat.zero_add, Nat.min_eq_left hk] at hLl
    by_cases hlt : k < s.size / 64
    case neg =>
      obtain rfl : k = s.size / 64 := by omega
      have hl := Lib.hid (hgood.out l HG.out)
      have hz2 : s.size / 64 * 64 = s.size := by omega
      rw [hz2] at hK0
      have t3 : decide ((s.size : Int) < (s.size : Int)) = false := by simp
      generalize s.size / 64 = N at *
      go_wp2
      go_ret2
      exact ⟨_, by rw [hl.out]; rfl, by rw [hl.out]; exact hown.recs (by decide) ent_len, HM.out⟩
    have hK1 : IntKind.i64.wrap ((k : Int) + 1) = ((k + 1 : Nat) : Int) := by rw [IntKind.wrap_i64]; omega
    have hK2 : IntKind.i64.wrap (((k + 1 : Nat) : Int) * 64) = (((k + 1) * 64 : Nat) : Int) := by rw [IntKind.wrap_i64]; omega
    have t3 : decide (((k * 64 : Nat) : Int) < (s.size : Int)) = true := by simp only [decide_eq_true_eq]; omega
    have i1 : ((k * 64 : Nat) : Int) ≤ (((k + 1) * 64 : Nat) : Int) := by omega
    have i2 : (((k + 1) * 64 : Nat) : Int) ≤ (s.size : Int) := by omega
    have i3 : (0 : Int) ≤ ((k * 64 : Nat) : Int) := by omega
    have hx : s.extract (k * 64) ((k + 1) * 64) = slotAt s k := by unfold slotAt; rw [Nat.add_mul, Nat.one_mul]
    have hx64 := slotAt_size hlt
    have hst := slots_take hlt
    have hsn := goE_snoc (x := slotAt s k) HG.out
    rw [List.length_take, slotsL_length, Nat.min_eq_left hk, ← hst] at hsn
    clear hst
    generalize slotAt s k = x at *
    obtain ⟨K0, hK0e⟩ : ∃ a, k * 64 = a := ⟨_, rfl⟩
    obtain ⟨K2, hK2e⟩ : ∃ a, (k + 1) * 64 = a := ⟨_, rfl⟩
    have t4 : decide (k * 64 < s.size) = true := by simp only [decide_eq_true_eq]; omega
    rw [hK0e] at hK0 t3 t4 i1 i3 hx
    rw [hK2e] at hK2 i1 i2 hx
    obtain ⟨K1, hK1e⟩ : ∃ a, k + 1 = a := ⟨_, rfl⟩
    rw [hK1e] at hK1 hK2 hsn
    have HK1 := Lib.hid hK1e
    have hK1l : K1 ≤ s.size / 64 := by omega
    clear hK0e hK2e hK1e
    have hbq := toList_beq x freeB
    have hFr := fun U => rfree_any U
    have hRd := fun U => rread_any x U hx64
    have hT1 := hT.mod HM.out
    by_cases hf : x = freeB
    · have hbq2 : (x.toList == freeB.toList) = true := by rw [hbq, hf]; simp
      rw [stepE, if_pos hf] at hsn
      have HS := Lib.hid hsn
      clear hbq hsn hf hRd
      generalize freeB = fb at *
      go_wp2_with fail
      refine (hFr _).mono ?_
      rintro e w1 ⟨rfl, m1⟩
      go_wp2
      go_roundw
      case rel => exact ⟨K1, l, hK1l, rfl, rfl, rfl, HS, hown.mod m1 (fun _ _ x => x), HM.out.trans m1⟩
      case measure => have := HK1.out; simp [intOf]; omega
    · have hbq2 : (x.toList == freeB.toList) = false := by
        rw [hbq, decide_eq_false_iff_not]
        exact fun e => hf (ByteArray.ext (Array.ext' e))
      rw [stepE, if_neg hf] at hsn
      have HS := Lib.hid hsn
      have hpz := readP_lt x
      have hnz := readN_size x
      clear hbq hsn hf
      generalize freeB = fb at *
      go_wp2_with fail
      refine (hFr _).mono ?_
      rintro e w1 ⟨rfl, m1⟩
      have hT2 := hT1.mod m1
      go_wp2_with fail
      refine (hRd _ hT2).mono ?_
      rintro e w2 ⟨p', n', rfl, hpn, m2⟩
      have hown := hown.mod (m1.trans m2) (fun _ _ x => x)
      have HM2 := Lib.hid ((HM.out.trans m1).trans m2)
      clear hFr hRd hT1 hT2 m1 m2 HM hbq2
      cases hok : readOk x with
      | false =>
        have hl : Hid (listS s = none) := hbad.out K1 (by rw [HS.out, hok]; simp)
        go_wp2
        go_ret2
        exact ⟨.slice none 0 0, by rw [hl.out]; rfl, by rw [hl.out]; exact RecsAt.nil _ _, HM2.out⟩
      | true =>
        obtain ⟨rfl, rfl⟩ := hpn hok
        have hno : Hid ((hasN l (readN x) = true ∨ hasP l (readP x) = true) → listS s = none) := by
          intro h
          refine hbad.out K1 ?_
          rw [HS.out, if_neg]
          rintro ⟨_, h1, h2⟩
          rcases h with h | h
          · rw [h] at h1; cases h1
          · rw [h] at h2; cases h2
        have hyes : Hid (hasN l (readN x) = false → hasP l (readP x) = false → goE ((slotsL s).take K1) 0 [] = some (l ++ [⟨k, readP x, readN x⟩])) := by
          intro h1 h2
          rw [HS.out, if_pos ⟨hok, h1, h2⟩]
        clear HS hok
        generalize readP x = p at *
        generalize readN x = nm at *
        obtain ⟨va, vc, hv, hvc, hvx⟩ := (hown.recs (by decide) ent_len).form
        subst hv
        have HOwn := Lib.hid hown
        clear hown hpn
        go_wp2
        go_loop [2, 3, 10] (fun a b i => ∃ j : Nat, j ≤ l.length ∧ a = .slice none 0 0 ∧ b = .bool false ∧ i = .int .i64 j ∧ Hid (∀ e ∈ l.take j, e.name ≠ nm ∧ e.path ≠ p)) (fun _ _ i => l.length - (intOf i).toNat)
        case atStart => exact ⟨0, by omega, rfl, rfl, rfl, fun e he => (by simp at he)⟩
        case round =>
          obtain ⟨j, hj, rfl, rfl, rfl, HA⟩ := hrel
          by_cases hjl : j < l.length
          · obtain ⟨g, off, rfl, _, hg, hc⟩ := hvx j l[j] (List.getElem?_eq_getElem hjl)
            have t5 : decide ((j : Int) < (l.length : Int)) = true := by simp; omega
            have c1 : w2.cell? ⟨g, off + j * 3 + 1, none⟩ = some (.int .u64 l[j].path) := hc 1 _ rfl
            have c2 : w2.cell? ⟨g, off + j * 3 + 2, none⟩ = some (.string l[j].name) := hc 2 _ rfl
            have j1 : (0 : Int) ≤ (j : Int) := by omega
            have j2 : (j : Int) < (l.length : Int) := by omega
            have j3 : (l.length : Int) ≤ (vc : Int) := by omega
            have hq := toList_beq l[j].name nm
            have hme : l[j] ∈ l := List.getElem_mem hjl
            have hstep : l.take (j + 1) = l.take j ++ [l[j]] := List.take_succ_eq_append_getElem hjl
            generalize l[j] = E at *
            clear hvx hc
            by_cases hnm : E.name = nm
            · have u1 : (E.name.toList == nm.toList) = true := by rw [hq, hnm]; simp
              have hl := Lib.hid (hno.out (Or.inl (by unfold hasN; rw [List.any_eq_true]; exact ⟨E, hme, decide_eq_true hnm⟩)))
              clear hq hnm hstep hme
              go_wp2
              go_ret2
              exact ⟨.slice none 0 0, by rw [hl.out]; rfl, by rw [hl.out]; exact RecsAt.nil _ _, HM2.out⟩
            have u1 : (E.name.toList == nm.toList) = false := by
              rw [hq, decide_eq_false_iff_not]
              exact fun e => hnm (ByteArray.ext (Array.ext' e))
            by_cases hpp : E.path = p
            · have u2 : ((E.path : Int) == (p : Int)) = true := by simp; omega
              have hl := Lib.hid (hno.out (Or.inr (by unfold hasP; rw [List.any_eq_true]; exact ⟨E, hme, decide_eq_true hpp⟩)))
              clear hq hnm hstep hme hpp
              go_wp2
              go_ret2
              exact ⟨.slice none 0 0, by rw [hl.out]; rfl, by rw [hl.out]; exact RecsAt.nil _ _, HM2.out⟩
            have u2 : ((E.path : Int) == (p : Int)) = false := by simp; omega
            have HA2 : Hid (∀ e ∈ l.take (j + 1), e.name ≠ nm ∧ e.path ≠ p) := by
              rw [hstep]
              intro e he
              rcases List.mem_append.1 he with h | h
              · exact HA.out e h
              · rw [List.mem_singleton.1 h]; exact ⟨hnm, hpp⟩
            clear hq hnm hpp hstep hme
            go_wp2
            go_round
            case rel => exact ⟨j + 1, hjl, rfl, rfl, by go_num, HA2⟩
            case measure => simp [intOf]; omega
          · obtain rfl : j = l.length := by omega
            have t5 : decide ((l.length : Int) < (l.length : Int)) = false := by simp
            have hHA := HA.out
            rw [List.take_length] at hHA
            have hG2 := Lib.hid (hyes.out (hasN_false.2 fun e he => (hHA e he).1) (hasP_false.2 fun e he => (hHA e he).2))
            have C1 : Hid ((l.length + 1) * 32 ≤ 140737488355328) := by show _ ≤ _; omega
            have C2 : Hid (l.length + 1 ≤ 9223372036854775807) := by show _ ≤ _; omega
            have C3 : Hid (w.heap.size ≤ (w2.alloc (.cells #[.int .i64 k, .int .u64 p, .string nm] 36)).heap.size) := by show _ ≤ _; rw [World.size_alloc]; have := HM2.out.size; omega
            have C5 : Hid (Src Tryd.prog 3 28 (.slice (some ⟨w2.heap.size, 0, none⟩) 1 1) 1 (flatE [⟨k, p, nm⟩]) (w2.alloc (.cells #[.int .i64 k, .int .u64 p, .string nm] 36))) :=
              src_recs Tryd.underlying28 (by decide) ent_len ent_one (Q := fun _ => True) (l := [⟨k, p, nm⟩]) (.inr ⟨w2.heap.size, 0, 1, rfl, trivial, by simp, by simp, fun j s hj i u hu => by
                have hj0 : j = 0 := by
                  have := (List.getElem?_eq_some_iff.1 hj).1
                  simp at this
                  exact this
                subst hj0
                simp at hj
                subst hj
                rw [cell_of (new_at _ _)]
                simpa [Ent.cells] using hu⟩) rfl
            have hown4 := HOwn.out.mod (S := fun _ => False) ((Mod.refl _ w2).alloc (.cells #[.int .i64 k, .int .u64 p, .string nm] 36)) (fun _ _ x => x)
            clear hvx hHA hno hyes HG
            go_wp2_with (refine wpl_append rfl (.tmp 67) (.tmp 72) _ _ rfl w.heap.size 36 (.agg #[.int .i64 0, .int .u64 0, .string { data := #[] }]) 3 32 Tryd.underlying28 info_entry rfl (by decide) _ _ _ rfl hown4 _ 1 _ rfl C5.out C1.out C2.out C3.out ?_; intro v' w5 hown' hgrow)
            go_roundw
            case rel =>
              refine ⟨K1, l ++ [⟨k, p, nm⟩], hK1l, rfl, rfl, rfl, hG2, ?_, hown4.thenMod (HM2.out.alloc _) hgrow (Nat.le_refl _)⟩
              rw [show flatE (l ++ [⟨k, p, nm⟩]) = flatE l ++ flatE [⟨k, p, nm⟩] from flatR_append .., List.length_append]
              exact hown'
            case measure => have := HK1.out; simp [intOf]; omega
end Go.Proofs.YtfkmfllhlhefdaaDoor
