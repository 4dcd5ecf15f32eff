/- The document's Put. -/
import Derived.Test.YtfkmfllhlhefdaaDoorDirRef4
namespace Go.Proofs.YtfkmfllhlhefdaaDoor
open Go.RowKit

theorem freeAt_lt {s : ByteArray} {k : Nat} (hk : k < freeAt s) : k < s.size / 64 ∧ slotAt s k ≠ freeB := by
  have h1 := freeAt_le s
  have h2 : k < (slotsL s).length := by rw [slotsL_length]; omega
  have h3 := List.not_of_lt_findIdx (xs := slotsL s) (p := fun x => decide (x = freeB)) (i := k) hk
  rw [slotsL_get] at h3
  exact ⟨by omega, by simpa using h3⟩
theorem freeAt_at {s : ByteArray} (h : freeAt s < s.size / 64) : slotAt s (freeAt s) = freeB := by
  have h2 : freeAt s < (slotsL s).length := by rw [slotsL_length]; omega
  have h3 := List.findIdx_getElem (xs := slotsL s) (p := fun x => decide (x = freeB)) (w := h2)
  simp only [decide_eq_true_eq] at h3
  have h4 := slotsL_get h2
  rw [← h4]
  exact h3
set_option maxRecDepth 100000 in
set_option maxHeartbeats 2000000 in
theorem rput_any (s n : ByteArray) (p : Nat) (w : World) (hs : s.size ≤ 1099511627776) (hn : n.size ≤ 1099511627776) (hp : p < 18446744073709551616) (hT : Tabs w) :
    Calls Tryd.prog 14 #[.string s, .string n, .int .u64 p] w fun e w' => e = .returned (putV (putS s n p)) ∧ Mod (fun _ => False) w w' := by
  have hV : putS s n p = match listS s with | none => (ByteArray.empty, 0, 51) | some l => if nameOk n = false then (ByteArray.empty, 0, 183) else if p = 0 ∨ hasP l p = true then (ByteArray.empty, 0, 2) else if hasN l n = true then (ByteArray.empty, 0, 184) else if 112 ≤ freeAt s then (ByteArray.empty, 0, 6) else (withS s (freeAt s) (slotB p n), freeAt s, 0) := rfl
  have hFi := fun U => rfind_any s n U hs hn
  have hNm := fun U => rname_any n U hn
  have hFr := fun U => rfree_any U
  go_enter Tryd.func14, Tryd.ntmps14
  go_wp2_with fail
  refine (rlist_any s _ hs hT).mono ?_
  rintro e w1 ⟨v, rfl, hE, m1⟩
  have hT1 := hT.mod m1
  cases hl : listS s with
  | none =>
    rw [hl] at hV
    replace hV := Lib.hid hV
    clear hFi hNm hFr
    go_wp2
    go_ret3
    exact ⟨by rw [hV.out]; rfl, m1⟩
  | some l =>
    rw [hl] at hV hE
    simp only [Option.getD_some] at hV hE
    cases hnk : nameOk n with
    | false =>
      rw [hnk] at hNm hV
      simp only [if_true] at hV
      replace hV := Lib.hid hV
      clear hFi hFr hE
      go_wp2_with fail
      refine (hNm _ hT1).mono ?_
      rintro e w2 ⟨rfl, m2⟩
      go_wp2
      go_ret3
      exact ⟨by rw [hV.out]; rfl, m1.trans m2⟩
    | true =>
      rw [hnk] at hNm hV
      simp only [Bool.true_eq_false, if_false] at hV
      have hns := (nameOk_size hnk).2
      have hsg := findS_sign (n := n) hl
      have hd := listS_iff.1 hl
      have hsz := hd.1.size
      have hle := freeAt_le s
      have hfl := fun k => @freeAt_lt s k
      have hfa := @freeAt_at s
      have hSl := fun U => rslot_any p n U hp hns
      have hWi := fun U => rwith_any s (slotB p n) (freeAt s) U hs (by omega) (by rw [slotB_size hns]; omega) (by omega) (by omega)
      have hHN := @has_find l n
      have hHP := @hasP_false l p
      have hLl : l.length ≤ s.size := by
        obtain ⟨_, rfl⟩ := hd
        have := ents_length (slotsL s) 0
        have h2 := List.countP_le_length (p := fun x => decide (x ≠ freeB)) (l := slotsL s)
        rw [slotsL_length] at h2
        show (entsF (slotsL s) 0).length ≤ _
        omega
      clear hd hnk hns
      generalize withS s (freeAt s) (slotB p n) = ws at *
      generalize slotB p n = sb at *
      generalize freeAt s = fa at *
      have HV := Lib.hid hV
      clear hV
      have hE2 := hE.mod (Mod.refl (fun _ => False) w1) (fun _ _ _ x => x)
      obtain ⟨va, vc, hv, hvc, hvx⟩ := hE.form
      subst hv
      go_wp2_with fail
      refine (hNm _ hT1).mono ?_
      rintro e w2 ⟨rfl, m2⟩
      have hT2 := hT1.mod m2
      have hE2 := hE.mod m2 (fun _ _ _ x => x)
      obtain ⟨va2, vc2, hv2, _, hvx⟩ := hE2.form
      injection hv2 with e1 e2 e3
      subst e1 e3
      clear hE hE2 hNm hT1 e2
      go_wp2
      go_loop [6, 7, 8, 11] (fun a b c i => ∃ j : Nat, j ≤ l.length ∧ a = .string ⟨#[]⟩ ∧ b = .int .i64 0 ∧ c = .int .i64 0 ∧ i = .int .i64 j ∧ Hid (∀ e ∈ l.take j, e.path ≠ p)) (fun _ _ _ i => l.length - (intOf i).toNat)
      case atStart => exact ⟨0, by omega, rfl, rfl, rfl, rfl, fun e he => (by simp at he)⟩
      case round =>
        obtain ⟨j, hj, rfl, rfl, rfl, rfl, HA⟩ := hrel
        by_cases hjl : j < l.length
        · obtain ⟨g, off, rfl, _, hg, hc⟩ := hvx j l[j] (List.getElem?_eq_getElem hjl)
          have t5 : decide ((j : Int) < (l.length : Int)) = true := by simp; omega
          have c1 : w2.cell? ⟨g, off + j * 3 + 1, none⟩ = some (.int .u64 l[j].path) := hc 1 _ rfl
          have j1 : (0 : Int) ≤ (j : Int) := by omega
          have j2 : (j : Int) < (l.length : Int) := by omega
          have j3 : (l.length : Int) ≤ (vc : Int) := by omega
          have hme : l[j] ∈ l := List.getElem_mem hjl
          have hstep : l.take (j + 1) = l.take j ++ [l[j]] := List.take_succ_eq_append_getElem hjl
          generalize l[j] = E at *
          clear hvx hc
          by_cases hpp : E.path = p
          · have u2 : ((E.path : Int) == (p : Int)) = true := by simp; omega
            have hV : Hid (putS s n p = (ByteArray.empty, 0, 2)) := by
              show _ = _
              rw [HV.out, if_pos (Or.inr (by unfold hasP; rw [List.any_eq_true]; exact ⟨E, hme, decide_eq_true hpp⟩))]
            clear hpp hme hstep hSl hWi hFi hsg hfl hfa
            go_wp2
            go_ret3
            exact ⟨by rw [hV.out]; rfl, m1.trans m2⟩
          have u2 : ((E.path : Int) == (p : Int)) = false := by simp; omega
          have HA2 : Hid (∀ e ∈ l.take (j + 1), e.path ≠ p) := by
            rw [hstep]
            intro e he
            rcases List.mem_append.1 he with h | h
            · exact HA.out e h
            · rw [List.mem_singleton.1 h]; exact hpp
          clear hpp hstep hme hSl hWi hFi hsg hfl hfa
          go_wp2
          go_round
          case rel => exact ⟨j + 1, hjl, rfl, rfl, rfl, by go_num, HA2⟩
          case measure => simp [intOf]; omega
        · obtain rfl : j = l.length := by omega
          have t5 : decide ((l.length : Int) < (l.length : Int)) = false := by simp
          have hHA := HA.out
          rw [List.take_length] at hHA
          have hpf : hasP l p = false := hHP.2 hHA
          have hV := HV.out
          rw [hpf] at hV
          simp only [Bool.false_eq_true, or_false] at hV
          clear hvx hHA hHP hpf HV
          by_cases hp0 : p = 0
          · have t1 : ((p : Int) == 0) = true := by subst hp0; rfl
            rw [if_pos hp0] at hV
            replace hV := Lib.hid hV
            clear hp0 hSl hWi hFi hsg hfl hfa
            go_wp2
            go_ret3
            exact ⟨by rw [hV.out]; rfl, m1.trans m2⟩
          have t1 : ((p : Int) == 0) = false := by simp; omega
          rw [if_neg hp0, hHN] at hV
          cases hfe : findE l n with
          | some g =>
            rw [hfe] at hV
            simp only [Option.isSome_some, if_true] at hV
            rw [hsg.2 g hfe] at hFi
            simp only at hFi
            obtain ⟨gS, gP, gN⟩ := g
            simp only at hFi
            have t2 : decide ((0 : Int) ≤ (gS : Int)) = true := by simp
            replace hV := Lib.hid hV
            clear hp0 hSl hWi hsg hfl hfa hfe
            go_wp2_with fail
            refine (hFi _ hT2).mono ?_
            rintro e w3 ⟨rfl, m3⟩
            go_wp2
            go_ret3
            exact ⟨by rw [hV.out]; rfl, (m1.trans m2).trans m3⟩
          | none =>
            rw [hfe] at hV
            simp only [Option.isSome_none, Bool.false_eq_true, if_false] at hV
            rw [hsg.1 hfe] at hFi
            simp only at hFi
            replace hV := Lib.hid hV
            have HFL := Lib.hid hfl
            have HFA := Lib.hid hfa
            clear hp0 hsg hfl hfa hfe
            go_wp2_with fail
            refine (hFi _ hT2).mono ?_
            rintro e w3 ⟨rfl, m3⟩
            have HM := Lib.hid ((m1.trans m2).trans m3)
            clear m1 m2 m3 hFi
            clear hvx hE2 HA hT2 hHN hl
            go_wp2
            go_loopw [12] (fun a wr => ∃ k : Nat, k ≤ fa ∧ a = .int .i64 k ∧ Hid (Mod (fun _ => False) w wr)) (fun a _ => fa - (intOf a).toNat)
            case atStart => exact ⟨0, by omega, rfl, HM⟩
            case round =>
              obtain ⟨k, hk, rfl, HM2⟩ := hrel
              have hK0 : IntKind.i64.wrap ((k : Int) * 64) = ((k * 64 : Nat) : Int) := by rw [IntKind.wrap_i64]; omega
              have hK1 : IntKind.i64.wrap ((k : Int) + 1) = ((k + 1 : Nat) : Int) := by rw [IntKind.wrap_i64]; omega
              have hK2 : IntKind.i64.wrap (((k + 1 : Nat) : Int) * 64) = (((k + 1) * 64 : Nat) : Int) := by rw [IntKind.wrap_i64]; omega
              by_cases hkn : k < s.size / 64
              case neg =>
                obtain rfl : fa = k := by omega
                have t6 : decide (((fa * 64 : Nat) : Int) < (s.size : Int)) = false := by simp only [decide_eq_false_iff_not]; omega
                have t7 : decide (fa * 64 < s.size) = false := by simp only [decide_eq_false_iff_not]; omega
                generalize fa * 64 = K0 at *
                clear hK1 hK2 hkn HFL HFA
                go_wp2
                go_quiet (fail)
                by_cases h112 : 112 ≤ fa
                · have t8 : decide ((112 : Int) ≤ (fa : Int)) = true := by simp; omega
                  have hV2 : Hid (putS s n p = (ByteArray.empty, 0, 6)) := hV.out.trans (if_pos h112)
                  clear hV h112 hSl hWi
                  go_wp2
                  go_ret3
                  exact ⟨by rw [hV2.out]; rfl, HM2.out.drewN _⟩
                · have t8 : decide ((112 : Int) ≤ (fa : Int)) = false := by simp; omega
                  have hV2 : Hid (putS s n p = (ws, fa, 0)) := hV.out.trans (if_neg h112)
                  clear hV h112
                  go_wp2_with fail
                  refine (hSl _).mono ?_
                  rintro e w8 ⟨rfl, m8⟩
                  go_wp2_with fail
                  refine (hWi _).mono ?_
                  rintro e w9 ⟨rfl, m9⟩
                  go_wp2
                  go_ret3
                  exact ⟨by rw [hV2.out]; rfl, ((HM2.out.drewN _).trans m8).trans m9⟩
              have t6 : decide (((k * 64 : Nat) : Int) < (s.size : Int)) = true := by simp only [decide_eq_true_eq]; omega
              have t7 : decide (k * 64 < s.size) = true := by simp only [decide_eq_true_eq]; omega
              have i1 : ((k * 64 : Nat) : Int) ≤ (((k + 1) * 64 : Nat) : Int) := by omega
              have i2 : (((k + 1) * 64 : Nat) : Int) ≤ (s.size : Int) := by omega
              have i3 : (0 : Int) ≤ ((k * 64 : Nat) : Int) := by omega
              have j1 : k * 64 ≤ (k + 1) * 64 := by omega
              have j2 : (k + 1) * 64 ≤ s.size := by omega
              have hx : s.extract (k * 64) ((k + 1) * 64) = slotAt s k := by unfold slotAt; rw [Nat.add_mul, Nat.one_mul]
              have hbq := toList_beq (slotAt s k) freeB
              have hlast : Hid (k = fa → slotAt s k = freeB) := fun h => by subst h; exact HFA.out hkn
              have hgo : Hid (k < fa → slotAt s k ≠ freeB) := fun h => (HFL.out k h).2
              obtain ⟨K0, hK0e⟩ : ∃ a, k * 64 = a := ⟨_, rfl⟩
              obtain ⟨K2, hK2e⟩ : ∃ a, (k + 1) * 64 = a := ⟨_, rfl⟩
              rw [hK0e] at hK0 t6 t7 i1 i3 hx j1
              rw [hK2e] at hK2 i1 i2 hx j1 j2
              obtain ⟨K1, hK1e⟩ : ∃ a, k + 1 = a := ⟨_, rfl⟩
              rw [hK1e] at hK1 hK2
              have HK1 := Lib.hid hK1e
              clear hK0e hK2e hK1e hkn HFL HFA
              generalize slotAt s k = x at *
              generalize freeB = fb at *
              by_cases hkf : k < fa
              · have hq : (x.toList == fb.toList) = false := by
                  rw [hbq, decide_eq_false_iff_not]
                  exact fun e => hgo.out hkf (ByteArray.ext (Array.ext' e))
                have hq2 : (x.toList != fb.toList) = true := by unfold bne; rw [hq]; rfl
                clear hbq hgo hlast
                go_wp2
                refine wp_onlyN ?_
                go_region_held_law (fun _ => True) (first | trivial) (first | (go_at_call 28; refine (hFr _).mono ?_; rintro e w4 ⟨rfl, m4⟩))
                all_goals refine onlyN_out ?_
                go_wp2
                go_roundw
                case rel => exact ⟨K1, by have := HK1.out; omega, rfl, HM2.out.drew.trans m4⟩
                case measure => have := HK1.out; simp [intOf]; omega
              · obtain rfl : fa = k := by omega
                have hq : (x.toList == fb.toList) = true := by rw [hbq, hlast.out rfl]; simp
                have hq2 : (x.toList != fb.toList) = false := by unfold bne; rw [hq]; rfl
                clear hbq hgo hlast hkf
                go_wp2
                refine wp_onlyN ?_
                go_region_held_law (fun _ => True) (first | trivial) (first | (go_at_call 28; refine (hFr _).mono ?_; rintro e w4 ⟨rfl, m4⟩))
                all_goals refine onlyN_out ?_
                by_cases h112 : 112 ≤ fa
                · have t8 : decide ((112 : Int) ≤ (fa : Int)) = true := by simp; omega
                  have hV2 : Hid (putS s n p = (ByteArray.empty, 0, 6)) := hV.out.trans (if_pos h112)
                  clear hV h112 hSl hWi
                  go_wp2
                  go_ret3
                  exact ⟨by rw [hV2.out]; rfl, HM2.out.drew.trans m4⟩
                · have t8 : decide ((112 : Int) ≤ (fa : Int)) = false := by simp; omega
                  have hV2 : Hid (putS s n p = (ws, fa, 0)) := hV.out.trans (if_neg h112)
                  clear hV h112
                  go_wp2_with fail
                  refine (hSl _).mono ?_
                  rintro e w8 ⟨rfl, m8⟩
                  go_wp2_with fail
                  refine (hWi _).mono ?_
                  rintro e w9 ⟨rfl, m9⟩
                  go_wp2
                  go_ret3
                  exact ⟨by rw [hV2.out]; rfl, ((HM2.out.drew.trans m4).trans m8).trans m9⟩
end Go.Proofs.YtfkmfllhlhefdaaDoor
