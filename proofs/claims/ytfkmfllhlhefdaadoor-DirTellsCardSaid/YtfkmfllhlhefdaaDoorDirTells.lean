/- DirTells. -/
import Derived.Test.YtfkmfllhlhefdaaDoorLawDir
import Derived.Test.YtfkmfllhlhefdaaDoorDirWorks
import Derived.Test.YtfkmfllhlhefdaaDoorDirRef3
namespace Go.Proofs.YtfkmfllhlhefdaaDoor.dirTells
open Go.ChangeShapes Go.WideShapes Go.ChangeAt Go.RowKit
open Go.ChangeMaps (open_string)

set_option maxRecDepth 100000 in
set_option maxHeartbeats 2000000 in
theorem walk (s n : ByteArray) (w : World) (hs : s.size ≤ 9223372036854775807) (hn : n.size ≤ 9223372036854775807) (hT : Tabs w) :
    Calls Tryd.prog 5 #[.string s, .string n] w fun e w' => e = .returned (.bool true) ∧ Mod (fun _ => False) w w' := by
  have hH := fun U => heavy_any s n ⟨#[]⟩ U hs hn (by decide)
  have hW := works_any
  by_cases hh : heavyS s n ⟨#[]⟩ = true
  · rw [hh] at hH
    go_enter Tryd.func5, Tryd.ntmps5
    go_wp2_with fail
    refine (hH _).mono ?_
    rintro e w1 ⟨rfl, rfl⟩
    go_wp2_with fail
    refine (hW _ hT).mono ?_
    rintro e w2 ⟨rfl, m2⟩
    go_wp2
    go_ret
    exact ⟨rfl, m2⟩
  · have hh : heavyS s n ⟨#[]⟩ = false := by simpa using hh
    rw [hh] at hH
    have hsz : s.size ≤ 4480 ∧ n.size ≤ 4096 := by
      unfold heavyS at hh
      simp only [Bool.or_eq_false_iff, decide_eq_false_iff_not] at hh
      omega
    obtain ⟨hs1, hn1⟩ := hsz
    have hRl := fun U => rlist_any s U (by omega)
    have hLi := fun U => list_any s U (by omega)
    have hFi := fun U => find_any s n U (by omega) (by omega)
    have hRf := fun U => rfind_any s n U (by omega) (by omega)
    have hCh := fun U => check_any s U (by omega)
    have hCo := fun U => count_any s U (by omega)
    have hNm := fun U => name_any n U (by omega)
    have hRn := fun U => rname_any n U (by omega)
    have hcs : countS s = ((listS s).getD []).length := rfl
    have hll : ((listS s).getD []).length ≤ 4480 := by
      cases h : listS s with
      | none => simp
      | some l =>
        obtain ⟨hd, rfl⟩ := listS_iff.1 h
        have := ents_length (slotsL s) 0
        have h2 := List.countP_le_length (p := fun x => decide (x ≠ freeB)) (l := slotsL s)
        rw [slotsL_length] at h2
        show (entsF (slotsL s) 0).length ≤ _
        omega
    rw [hcs] at hCo
    generalize findS s n = fs at *
    obtain ⟨f1, f2⟩ := fs
    simp only at hFi hRf
    unfold okE at hLi hCh
    generalize (listS s).getD [] = l at *
    clear hh hs hn hcs
    cases hnk : nameOk n with
    | false =>
      rw [hnk] at hNm hRn
      simp only [Bool.false_eq_true, if_false] at hNm
      cases hi : (listS s).isSome with
      | false =>
        rw [hi] at hRl hLi hCh
        simp only [Bool.false_eq_true, if_false] at hLi hCh
        go_enter Tryd.func5, Tryd.ntmps5
        go_wp2_with fail
        refine (hH _).mono ?_
        rintro e w1 ⟨rfl, rfl⟩
        go_wp2_with fail
        refine (hRl _ hT).mono ?_
        rintro e w2 ⟨v1, rfl, hE1, m1⟩
        have hT2 := hT.mod m1
        go_wp2_with fail
        refine (hLi _ hT2).mono ?_
        rintro e w3 ⟨v2, rfl, hE2, m2⟩
        have hT3 := hT2.mod m2
        go_wp2_with fail
        refine (hFi _ hT3).mono ?_
        rintro e w4 ⟨rfl, m3⟩
        have hT4 := hT3.mod m3
        go_wp2_with fail
        refine (hRf _ hT4).mono ?_
        rintro e w5 ⟨rfl, m4⟩
        have hT5 := hT4.mod m4
        go_wp2_with fail
        refine (hCh _ hT5).mono ?_
        rintro e w6 ⟨rfl, m5⟩
        have hT6 := hT5.mod m5
        go_wp2_with fail
        refine (hCh _ hT6).mono ?_
        rintro e w6 ⟨rfl, m55⟩
        have hT6 := hT6.mod m55
        have m5 := m5.trans m55
        have hE1 := hE1.mod (((m2.trans m3).trans m4).trans m5) (fun _ _ _ x => x)
        have hE2 := hE2.mod ((m3.trans m4).trans m5) (fun _ _ _ x => x)
        have hSa := same_any v2 v1 l w6 (hE2.imp fun _ _ => trivial) (hE1.imp fun _ _ => trivial) (by omega)
        obtain ⟨va, vc, hv, _, _⟩ := hE1.form
        subst hv
        clear hE1 hE2
        go_wp2_with fail
        refine (hSa).mono ?_
        rintro e w7 ⟨rfl, m6⟩
        have hT7 := hT6.mod m6
        go_wp2_with fail
        refine (hCo _ hT7).mono ?_
        rintro e w8 ⟨rfl, m7⟩
        have hT8 := hT7.mod m7
        go_wp2_with fail
        refine (hNm _ hT8).mono ?_
        rintro e w9 ⟨rfl, m8⟩
        have hT9 := hT8.mod m8
        go_wp2_with fail
        refine (hRn _ hT9).mono ?_
        rintro e w10 ⟨rfl, m9⟩
        have hT10 := hT9.mod m9
        go_wp2_with fail
        refine (hW _ hT10).mono ?_
        rintro e w11 ⟨rfl, m10⟩
        go_wp2
        go_ret
        exact ⟨rfl, ((((((((m1.trans m2).trans m3).trans m4).trans m5).trans m6).trans m7).trans m8).trans m9).trans m10⟩
      | true =>
        rw [hi] at hRl hLi hCh
        simp only [if_true] at hLi hCh
        go_enter Tryd.func5, Tryd.ntmps5
        go_wp2_with fail
        refine (hH _).mono ?_
        rintro e w1 ⟨rfl, rfl⟩
        go_wp2_with fail
        refine (hRl _ hT).mono ?_
        rintro e w2 ⟨v1, rfl, hE1, m1⟩
        have hT2 := hT.mod m1
        go_wp2_with fail
        refine (hLi _ hT2).mono ?_
        rintro e w3 ⟨v2, rfl, hE2, m2⟩
        have hT3 := hT2.mod m2
        go_wp2_with fail
        refine (hFi _ hT3).mono ?_
        rintro e w4 ⟨rfl, m3⟩
        have hT4 := hT3.mod m3
        go_wp2_with fail
        refine (hRf _ hT4).mono ?_
        rintro e w5 ⟨rfl, m4⟩
        have hT5 := hT4.mod m4
        go_wp2_with fail
        refine (hCh _ hT5).mono ?_
        rintro e w6 ⟨rfl, m5⟩
        have hT6 := hT5.mod m5
        have hE1 := hE1.mod (((m2.trans m3).trans m4).trans m5) (fun _ _ _ x => x)
        have hE2 := hE2.mod ((m3.trans m4).trans m5) (fun _ _ _ x => x)
        have hSa := same_any v2 v1 l w6 (hE2.imp fun _ _ => trivial) (hE1.imp fun _ _ => trivial) (by omega)
        obtain ⟨va, vc, hv, _, _⟩ := hE1.form
        subst hv
        clear hE1 hE2
        go_wp2_with fail
        refine (hSa).mono ?_
        rintro e w7 ⟨rfl, m6⟩
        have hT7 := hT6.mod m6
        go_wp2_with fail
        refine (hCo _ hT7).mono ?_
        rintro e w8 ⟨rfl, m7⟩
        have hT8 := hT7.mod m7
        go_wp2_with fail
        refine (hNm _ hT8).mono ?_
        rintro e w9 ⟨rfl, m8⟩
        have hT9 := hT8.mod m8
        go_wp2_with fail
        refine (hRn _ hT9).mono ?_
        rintro e w10 ⟨rfl, m9⟩
        have hT10 := hT9.mod m9
        go_wp2_with fail
        refine (hW _ hT10).mono ?_
        rintro e w11 ⟨rfl, m10⟩
        go_wp2
        go_ret
        exact ⟨rfl, ((((((((m1.trans m2).trans m3).trans m4).trans m5).trans m6).trans m7).trans m8).trans m9).trans m10⟩
    | true =>
      rw [hnk] at hNm hRn
      simp only [if_true] at hNm
      cases hi : (listS s).isSome with
      | false =>
        rw [hi] at hRl hLi hCh
        simp only [Bool.false_eq_true, if_false] at hLi hCh
        go_enter Tryd.func5, Tryd.ntmps5
        go_wp2_with fail
        refine (hH _).mono ?_
        rintro e w1 ⟨rfl, rfl⟩
        go_wp2_with fail
        refine (hRl _ hT).mono ?_
        rintro e w2 ⟨v1, rfl, hE1, m1⟩
        have hT2 := hT.mod m1
        go_wp2_with fail
        refine (hLi _ hT2).mono ?_
        rintro e w3 ⟨v2, rfl, hE2, m2⟩
        have hT3 := hT2.mod m2
        go_wp2_with fail
        refine (hFi _ hT3).mono ?_
        rintro e w4 ⟨rfl, m3⟩
        have hT4 := hT3.mod m3
        go_wp2_with fail
        refine (hRf _ hT4).mono ?_
        rintro e w5 ⟨rfl, m4⟩
        have hT5 := hT4.mod m4
        go_wp2_with fail
        refine (hCh _ hT5).mono ?_
        rintro e w6 ⟨rfl, m5⟩
        have hT6 := hT5.mod m5
        go_wp2_with fail
        refine (hCh _ hT6).mono ?_
        rintro e w6 ⟨rfl, m55⟩
        have hT6 := hT6.mod m55
        have m5 := m5.trans m55
        have hE1 := hE1.mod (((m2.trans m3).trans m4).trans m5) (fun _ _ _ x => x)
        have hE2 := hE2.mod ((m3.trans m4).trans m5) (fun _ _ _ x => x)
        have hSa := same_any v2 v1 l w6 (hE2.imp fun _ _ => trivial) (hE1.imp fun _ _ => trivial) (by omega)
        obtain ⟨va, vc, hv, _, _⟩ := hE1.form
        subst hv
        clear hE1 hE2
        go_wp2_with fail
        refine (hSa).mono ?_
        rintro e w7 ⟨rfl, m6⟩
        have hT7 := hT6.mod m6
        go_wp2_with fail
        refine (hCo _ hT7).mono ?_
        rintro e w8 ⟨rfl, m7⟩
        have hT8 := hT7.mod m7
        go_wp2_with fail
        refine (hNm _ hT8).mono ?_
        rintro e w9 ⟨rfl, m8⟩
        have hT9 := hT8.mod m8
        go_wp2_with fail
        refine (hRn _ hT9).mono ?_
        rintro e w10 ⟨rfl, m9⟩
        have hT10 := hT9.mod m9
        go_wp2_with fail
        refine (hW _ hT10).mono ?_
        rintro e w11 ⟨rfl, m10⟩
        go_wp2
        go_ret
        exact ⟨rfl, ((((((((m1.trans m2).trans m3).trans m4).trans m5).trans m6).trans m7).trans m8).trans m9).trans m10⟩
      | true =>
        rw [hi] at hRl hLi hCh
        simp only [if_true] at hLi hCh
        go_enter Tryd.func5, Tryd.ntmps5
        go_wp2_with fail
        refine (hH _).mono ?_
        rintro e w1 ⟨rfl, rfl⟩
        go_wp2_with fail
        refine (hRl _ hT).mono ?_
        rintro e w2 ⟨v1, rfl, hE1, m1⟩
        have hT2 := hT.mod m1
        go_wp2_with fail
        refine (hLi _ hT2).mono ?_
        rintro e w3 ⟨v2, rfl, hE2, m2⟩
        have hT3 := hT2.mod m2
        go_wp2_with fail
        refine (hFi _ hT3).mono ?_
        rintro e w4 ⟨rfl, m3⟩
        have hT4 := hT3.mod m3
        go_wp2_with fail
        refine (hRf _ hT4).mono ?_
        rintro e w5 ⟨rfl, m4⟩
        have hT5 := hT4.mod m4
        go_wp2_with fail
        refine (hCh _ hT5).mono ?_
        rintro e w6 ⟨rfl, m5⟩
        have hT6 := hT5.mod m5
        have hE1 := hE1.mod (((m2.trans m3).trans m4).trans m5) (fun _ _ _ x => x)
        have hE2 := hE2.mod ((m3.trans m4).trans m5) (fun _ _ _ x => x)
        have hSa := same_any v2 v1 l w6 (hE2.imp fun _ _ => trivial) (hE1.imp fun _ _ => trivial) (by omega)
        obtain ⟨va, vc, hv, _, _⟩ := hE1.form
        subst hv
        clear hE1 hE2
        go_wp2_with fail
        refine (hSa).mono ?_
        rintro e w7 ⟨rfl, m6⟩
        have hT7 := hT6.mod m6
        go_wp2_with fail
        refine (hCo _ hT7).mono ?_
        rintro e w8 ⟨rfl, m7⟩
        have hT8 := hT7.mod m7
        go_wp2_with fail
        refine (hNm _ hT8).mono ?_
        rintro e w9 ⟨rfl, m8⟩
        have hT9 := hT8.mod m8
        go_wp2_with fail
        refine (hRn _ hT9).mono ?_
        rintro e w10 ⟨rfl, m9⟩
        have hT10 := hT9.mod m9
        go_wp2_with fail
        refine (hW _ hT10).mono ?_
        rintro e w11 ⟨rfl, m10⟩
        go_wp2
        go_ret
        exact ⟨rfl, ((((((((m1.trans m2).trans m3).trans m4).trans m5).trans m6).trans m7).trans m8).trans m9).trans m10⟩

set_option maxRecDepth 100000 in
theorem contract (H : Type) (enc : TypeId × Value → H) (W : World) (base : Nat) (args : Array Value) (ds gs : List (DataW H)) (before : List MemPlace)
    (hval : ∀ (j : Nat) t v, Tryd.f5.params[j]? = some t → args[j]? = some v → Value.okWide Tryd.prog W .any base t v)
    (hW : DataW.Whole enc Tryd.prog Tryd.f5.params.toList Rows.dirTellsSpec.vars false W args.toList ds gs before)
    (hL : laidMetH Tryd.prog Rows.dirTellsRow.laid W) :
    Calls Tryd.prog 5 args W fun e W' => ∃ v, e = .returned v ∧ Rows.dirTellsSpec.post enc Tryd.prog Tryd.f5 false true false false W args v W' := by
  have hT := tabs_of_laid W hL
  have hW' := hW
  obtain ⟨p, q, hA0, hV, rfl, hfz, hnd⟩ := hW
  have hA : DataW.TrodAll enc Tryd.prog W 0 (fun _ => true) true Tryd.f5.params.toList args.toList ds p := hA0
  rw [Tryd.params5] at hA hval
  obtain ⟨v0, vs0, d0, ds0, p0, q0, hargs, rfl, rfl, h0, r0⟩ := trodAll_cons hA
  obtain ⟨v1, vs1, d1, ds1, p1, q1, hargs1, rfl, rfl, h1, r1⟩ := trodAll_cons r0
  obtain ⟨rfl, rfl, rfl⟩ := trodAll_nil r1
  obtain rfl : args = #[v0, v1] := by cases args; simp_all
  obtain ⟨rfl, rfl⟩ := trodVars_none hV
  obtain ⟨s, rfl, rfl, rfl, hs⟩ := open_string Tryd.underlying9 (hval 0 9 v0 rfl rfl) h0
  obtain ⟨n, rfl, rfl, rfl, hn⟩ := open_string Tryd.underlying9 (hval 1 9 v1 rfl rfl) h1
  clear hA0
  simp only [List.append_nil] at hW'
  refine (walk s n W hs hn hT).mono fun e W' ⟨he, hg⟩ => ?_
  subst he
  exact ⟨_, rfl, law_post hW' hg (by kernel_rfl) rfl rfl rfl rfl rfl⟩
set_option maxRecDepth 100000 in
theorem lifted (os : Os) (started : os.Started) (H : Type) (enc : TypeId × Value → H) :
    ReturnsInHanded {} Tryd.checked os 5 .any (fun w args => (Rows.dirTellsSpec.pre enc Tryd.prog Tryd.f5 Rows.dirTellsRow.domain false w args ∧ laidMetH Tryd.prog Rows.dirTellsRow.laid w) ∧ sizedMet enc Tryd.prog Tryd.f5 (OpenSpec.ofChange Rows.dirTellsSpec) false w args)
      (Rows.dirTellsSpec.post enc Tryd.prog Tryd.f5 false true false false) := by
  refine returnsInHanded_of_change_and (C := Tryd.checked) (X := fun w _ => laidMetH Tryd.prog Rows.dirTellsRow.laid w) (fun _ _ _ hh h => h.of_heap hh) own_knob started (by kernel_rfl) Tryd.func5
    (ChangeSpec.witness_shaped (enc := enc) (C := Tryd.checked) (os := os) (X := fun w _ => laidMetH Tryd.prog Rows.dirTellsRow.laid w) false (World.laidAll Tryd.prog os Rows.dirTellsRow.laid) #[.string .empty, .string .empty] 8 (World.laidAll_os _ _ _)
      (World.shaped_of_ZipB (by kernel_rfl) (by kernel_rfl)) (by kernel_rfl) (by kernel_rfl) (by kernel_rfl)
      (by rw [MakeChecks.laidMetH_plain _ _ _ (by kernel_rfl)]; exact laidMet_laidAll _ (by kernel_rfl) (by kernel_rfl))) ?_
  intro W base args ds gs before hval hW _ _ hL _
  exact contract H enc W base args ds gs before hval hW hL

theorem holds : Rows.DirTellsSaid :=
  OpenClaim.holds_of_wide 5 Tryd.f5 rfl rfl rfl rfl rfl rfl rfl ⟨rfl, rfl, rfl, rfl, rfl⟩ rfl rfl rfl rfl rfl (by kernel_rfl) Tryd.func5 (by kernel_rfl)
    (of_decide_eq_true (by kernel_rfl)) (by unfold Func.isWrapper; first | (rw [if_pos (by decide +kernel)]; kernel_rfl) | (rw [if_neg (by decide +kernel)]; exact ⟨rfl, rfl⟩))
    (fun os started H enc _ => lifted os started H enc)

theorem proved : Rows.DirTellsCardSaid :=
  Claim7.holds_tied_plain_at .later [] [.data, .pinned] true (true, "67b92133683c6ece50fdaa6ce9b498d57ddb0f28c7f6dfe5a40ee77b233c1a73") false holds (fun _ h => by cases h) (by kernel_rfl) (fun _ h => by cases h) dirTells_row_tie rfl ⟨rfl, rfl⟩ (by kernel_rfl) rfl
    (fun f fn hf hfn => by
      obtain rfl : f = 5 := Option.some.inj ((show Tryd.prog.funcNamed "coffer/cofferlaw17.DirTells" = some 5 by kernel_rfl).symm.trans hf) |>.symm
      obtain rfl : fn = Tryd.f5 := (Option.some.inj (Tryd.func5.symm.trans hfn)).symm
      exact ⟨by kernel_rfl, fun j t ht => by
        rw [Tryd.params5] at ht
        have hm : t ∈ [9, 9] := by simpa using Array.mem_of_getElem? ht
        have hall : ([9, 9].all fun u => !Tryd.prog.wantsStandIn u) = true := by kernel_rfl
        exact (show Tryd.prog.wantsStandIn t = false by simpa using List.all_eq_true.1 hall t hm)⟩)
    (by kernel_rfl)
end Go.Proofs.YtfkmfllhlhefdaaDoor.dirTells
