/- The document's Put, Drop, Rename. -/
import Derived.Test.YtfkmfllhlhefdaaDoorDirRef3
import Derived.Test.YtfkmfllhlhefdaaDoorDirOps2
namespace Go.Proofs.YtfkmfllhlhefdaaDoor
open Go.RowKit

theorem findS_sign {s n : ByteArray} {l : List Ent} (hl : listS s = some l) : (findE l n = none → findS s n = (-1, 0)) ∧ (∀ e, findE l n = some e → findS s n = ((e.slot : Int), e.path)) := by
  obtain ⟨hd, rfl⟩ := listS_iff.1 hl
  exact ⟨fun h => findS_none hd h, fun e h => findS_some hd h⟩
set_option maxRecDepth 100000 in
set_option maxHeartbeats 2000000 in
theorem rdrop_any (s n : ByteArray) (w : World) (hs : s.size ≤ 1099511627776) (hn : n.size ≤ 1099511627776) (hT : Tabs w) :
    Calls Tryd.prog 23 #[.string s, .string n] w fun e w' => e = .returned (putV (dropS s n)) ∧ Mod (fun _ => False) w w' := by
  have hV : dropS s n = match listS s with | none => (ByteArray.empty, 0, 51) | some l => match findE l n with | none => (ByteArray.empty, 0, 5) | some e => (withS s e.slot freeB, e.slot, 0) := rfl
  have hFi := fun U => rfind_any s n U hs hn
  have hFr := fun U => rfree_any U
  have hfb := freeB_size
  go_enter Tryd.func23, Tryd.ntmps23
  go_wp2_with fail
  refine (rlist_any s _ hs hT).mono ?_
  rintro e w1 ⟨v, rfl, hE, m1⟩
  have hT1 := hT.mod m1
  cases hl : listS s with
  | none =>
    rw [hl] at hV
    have hV := Lib.hid hV
    clear hFi hfb hFr
    go_wp2
    go_ret3
    exact ⟨by rw [hV.out]; rfl, m1⟩
  | some l =>
    rw [hl] at hV
    simp only at hV
    obtain ⟨hs1, hs2⟩ := findS_sign (n := n) hl
    have hd := listS_iff.1 hl
    have hsz := hd.1.size
    cases hf : findE l n with
    | none =>
      rw [hf] at hV
      rw [hs1 hf] at hFi
      simp only at hV hFi
      have hV := Lib.hid hV
      clear hd hs1 hs2 hfb hFr
      go_wp2_with fail
      refine (hFi _ hT1).mono ?_
      rintro e w2 ⟨rfl, m2⟩
      go_wp2
      go_ret3
      exact ⟨by rw [hV.out]; rfl, m1.trans m2⟩
    | some e =>
      rw [hf] at hV
      rw [hs2 e hf] at hFi
      simp only at hV hFi
      have hem : e.slot < s.size / 64 := by
        obtain ⟨hd, rfl⟩ := hd
        exact (hd.mem ((find_iff hd.apart).1 hf).1).1
      have hWi := fun U => rwith_any s freeB e.slot U hs (by omega) (by omega) (by omega) (by omega)
      clear hd hs1 hs2 hf hfb
      obtain ⟨eS, eP, eN⟩ := e
      simp only at hV hWi hFi hem
      have t1 : decide ((eS : Int) < 0) = false := by simp
      generalize withS s eS freeB = ws at *
      generalize freeB = fb at *
      have hV := Lib.hid hV
      go_wp2_with fail
      refine (hFi _ hT1).mono ?_
      rintro e w2 ⟨rfl, m2⟩
      go_wp2_with fail
      refine (hFr _).mono ?_
      rintro e w3 ⟨rfl, m3⟩
      go_wp2_with fail
      refine (hWi _).mono ?_
      rintro e w4 ⟨rfl, m4⟩
      go_wp2
      go_ret3
      exact ⟨by rw [hV.out]; rfl, ((m1.trans m2).trans m3).trans m4⟩
set_option maxRecDepth 100000 in
set_option maxHeartbeats 2000000 in
theorem rrename_any (s o n : ByteArray) (w : World) (hs : s.size ≤ 1099511627776) (ho : o.size ≤ 1099511627776) (hn : n.size ≤ 1099511627776) (hT : Tabs w) :
    Calls Tryd.prog 25 #[.string s, .string o, .string n] w fun e w' => e = .returned (putV (renS s o n)) ∧ Mod (fun _ => False) w w' := by
  have hV : renS s o n = match listS s with | none => (ByteArray.empty, 0, 51) | some l => match findE l o with | none => (ByteArray.empty, 0, 5) | some e => if nameOk n = false then (ByteArray.empty, 0, 183) else match findE l n with | some e2 => if e2.slot = e.slot then (withS s e.slot (slotB e.path n), e.slot, 0) else (ByteArray.empty, 0, 184) | none => (withS s e.slot (slotB e.path n), e.slot, 0) := rfl
  have hF1 := fun U => rfind_any s o U hs ho
  have hF2 := fun U => rfind_any s n U hs hn
  have hNm := fun U => rname_any n U hn
  have hns := fun h => (nameOk_size (s := n) h).2
  go_enter Tryd.func25, Tryd.ntmps25
  go_wp2_with fail
  refine (rlist_any s _ hs hT).mono ?_
  rintro e w1 ⟨v, rfl, hE, m1⟩
  have hT1 := hT.mod m1
  cases hl : listS s with
  | none =>
    rw [hl] at hV
    have hV := Lib.hid hV
    clear hF1 hF2 hNm hns
    go_wp2
    go_ret3
    exact ⟨by rw [hV.out]; rfl, m1⟩
  | some l =>
    rw [hl] at hV
    simp only at hV
    obtain ⟨hs1, hs2⟩ := findS_sign (n := o) hl
    obtain ⟨hs3, hs4⟩ := findS_sign (n := n) hl
    have hd := listS_iff.1 hl
    have hsz := hd.1.size
    cases hf : findE l o with
    | none =>
      rw [hf] at hV
      rw [hs1 hf] at hF1
      simp only at hV hF1
      have hV := Lib.hid hV
      clear hd hs1 hs2 hs3 hs4 hF2 hNm hns
      go_wp2_with fail
      refine (hF1 _ hT1).mono ?_
      rintro e w2 ⟨rfl, m2⟩
      go_wp2
      go_ret3
      exact ⟨by rw [hV.out]; rfl, m1.trans m2⟩
    | some e =>
      rw [hf] at hV
      rw [hs2 e hf] at hF1
      simp only at hV hF1
      have hem := (hd.1.mem ((find_iff hd.1.apart).1 (by rw [← hd.2]; exact hf)).1)
      obtain ⟨he1, _, _, he2, _⟩ := hem
      have hSl := fun (h : n.size ≤ 55) U => rslot_any e.path n U he2 h
      have hWi := fun (h : n.size ≤ 55) U => rwith_any s (slotB e.path n) e.slot U hs (by omega) (by rw [slotB_size h]; omega) (by omega) (by omega)
      clear hd hs1 hs2 hf
      obtain ⟨eS, eP, eN⟩ := e
      simp only at hV hWi hF1 hSl he1 he2
      have t1 : decide ((eS : Int) < 0) = false := by simp
      generalize withS s eS (slotB eP n) = ws at *
      generalize slotB eP n = sb at *
      cases hnk : nameOk n with
      | false =>
        rw [hnk] at hNm hV
        simp only [if_true] at hV
        have hV := Lib.hid hV
        clear hF2 hs3 hs4 hns hSl hWi
        go_wp2_with fail
        refine (hF1 _ hT1).mono ?_
        rintro e w2 ⟨rfl, m2⟩
        have hT2 := hT1.mod m2
        go_wp2_with fail
        refine (hNm _ hT2).mono ?_
        rintro e w3 ⟨rfl, m3⟩
        go_wp2
        go_ret3
        exact ⟨by rw [hV.out]; rfl, (m1.trans m2).trans m3⟩
      | true =>
        rw [hnk] at hNm hV
        simp only [Bool.true_eq_false, if_false] at hV
        have hSl := hSl (hns hnk)
        have hWi := hWi (hns hnk)
        clear hns hnk
        go_wp2_with fail
        refine (hF1 _ hT1).mono ?_
        rintro e w2 ⟨rfl, m2⟩
        have hT2 := hT1.mod m2
        go_wp2_with fail
        refine (hNm _ hT2).mono ?_
        rintro e w3 ⟨rfl, m3⟩
        have hT3 := hT2.mod m3
        cases hf : findE l n with
        | none =>
          rw [hf] at hV
          rw [hs3 hf] at hF2
          simp only at hV hF2
          have hV := Lib.hid hV
          clear hs3 hs4
          go_wp2_with fail
          refine (hF2 _ hT3).mono ?_
          rintro e w4 ⟨rfl, m4⟩
          go_wp2_with fail
          refine (hSl _).mono ?_
          rintro e w5 ⟨rfl, m5⟩
          go_wp2_with fail
          refine (hWi _).mono ?_
          rintro e w6 ⟨rfl, m6⟩
          go_wp2
          go_ret3
          exact ⟨by rw [hV.out]; rfl, ((((m1.trans m2).trans m3).trans m4).trans m5).trans m6⟩
        | some g =>
          rw [hf] at hV
          rw [hs4 g hf] at hF2
          obtain ⟨gS, gP, gN⟩ := g
          simp only at hV hF2
          have t2 : decide ((0 : Int) ≤ (gS : Int)) = true := by simp
          clear hs3 hs4 hf
          by_cases hne : gS = eS
          · have t3 : ((gS : Int) != (eS : Int)) = false := by simp [hne]
            rw [if_pos hne] at hV
            have hV := Lib.hid hV
            clear hne
            go_wp2_with fail
            refine (hF2 _ hT3).mono ?_
            rintro e w4 ⟨rfl, m4⟩
            go_wp2_with fail
            refine (hSl _).mono ?_
            rintro e w5 ⟨rfl, m5⟩
            go_wp2_with fail
            refine (hWi _).mono ?_
            rintro e w6 ⟨rfl, m6⟩
            go_wp2
            go_ret3
            exact ⟨by rw [hV.out]; rfl, ((((m1.trans m2).trans m3).trans m4).trans m5).trans m6⟩
          · have t3 : ((gS : Int) != (eS : Int)) = true := by simp; omega
            rw [if_neg hne] at hV
            have hV := Lib.hid hV
            clear hne hSl hWi
            go_wp2_with fail
            refine (hF2 _ hT3).mono ?_
            rintro e w4 ⟨rfl, m4⟩
            go_wp2
            go_ret3
            exact ⟨by rw [hV.out]; rfl, ((m1.trans m2).trans m3).trans m4⟩
end Go.Proofs.YtfkmfllhlhefdaaDoor
