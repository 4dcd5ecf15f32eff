/- DirChanges. -/
import Derived.Test.YtfkmfllhlhefdaaDoorLawDir
import Derived.Test.YtfkmfllhlhefdaaDoorLawChange
import Derived.Test.YtfkmfllhlhefdaaDoorDirWorks
import Derived.Test.YtfkmfllhlhefdaaDoorDirRef5
namespace Go.Proofs.YtfkmfllhlhefdaaDoor.dirChanges
open Go.ChangeShapes Go.WideShapes Go.ChangeAt Go.RowKit

set_option maxRecDepth 100000 in
set_option maxHeartbeats 4000000 in
theorem walk (s n o : ByteArray) (p : Nat) (w : World) (hs : s.size ≤ 9223372036854775807) (hn : n.size ≤ 9223372036854775807) (ho : o.size ≤ 9223372036854775807) (hp : p < 18446744073709551616) (hT0 : Tabs w) :
    Calls Tryd.prog 6 #[.agg #[.string s, .string n, .string o, .int .u64 p]] w fun e w' => e = .returned (.bool true) ∧ Mod (fun _ => False) w w' := by
  have hH := fun U => heavy_any s n o U hs hn ho
  have hW := works_any
  obtain ⟨W1, hW1⟩ : ∃ W1, w.alloc (.cells #[.string s, .string n, .string o, .int .u64 p] 24) = W1 := ⟨_, rfl⟩
  have hB : W1.heap[w.heap.size]? = some (.cells #[.string s, .string n, .string o, .int .u64 p] 24 (0, 0)) := by subst hW1; exact new_at _ _
  have m1 : Mod (fun _ => False) w W1 := by subst hW1; exact (Mod.refl _ _).alloc _
  have hT := hT0.mod m1
  have c0 : (W1).cell? ⟨w.heap.size, 0, none⟩ = some (.string s) := (cell_of hB 0).trans rfl
  have c1 : (W1).cell? ⟨w.heap.size, 1, none⟩ = some (.string n) := (cell_of hB 1).trans rfl
  have c2 : (W1).cell? ⟨w.heap.size, 2, none⟩ = some (.string o) := (cell_of hB 2).trans rfl
  have c3 : (W1).cell? ⟨w.heap.size, 3, none⟩ = some (.int .u64 p) := (cell_of hB 3).trans rfl
  clear hB
  by_cases hh : heavyS s n o = true
  · rw [hh] at hH
    go_enter Tryd.func6, Tryd.ntmps6
    go_wp2_with fail
    refine (hH _).mono ?_
    rintro e w1 ⟨rfl, rfl⟩
    go_wp2_with fail
    refine (hW _ hT).mono ?_
    rintro e w2 ⟨rfl, m2⟩
    go_wp2
    go_ret
    exact ⟨rfl, m1.trans m2⟩
  · have hh : heavyS s n o = false := by simpa using hh
    rw [hh] at hH
    have hsz : s.size ≤ 4480 ∧ n.size ≤ 4096 ∧ o.size ≤ 4096 := by
      unfold heavyS at hh
      simp only [Bool.or_eq_false_iff, decide_eq_false_iff_not] at hh
      omega
    obtain ⟨hs1, hn1, ho1⟩ := hsz
    have hPu := fun U => put_any s n p U (by omega) (by omega) hp
    have hRp := fun U => rput_any s n p U (by omega) (by omega) hp
    have hDr := fun U => drop_any s n U (by omega) (by omega)
    have hRd := fun U => rdrop_any s n U (by omega) (by omega)
    have hRe := fun U => rename_any s n o U (by omega) (by omega) (by omega)
    have hRr := fun U => rrename_any s n o U (by omega) (by omega) (by omega)
    generalize putS s n p = A at *
    generalize dropS s n = B at *
    generalize renS s n o = C at *
    obtain ⟨a1, a2, a3⟩ := A
    obtain ⟨b1, b2, b3⟩ := B
    obtain ⟨d1, d2, d3⟩ := C
    unfold putV at hPu hRp hDr hRd hRe hRr
    simp only at hPu hRp hDr hRd hRe hRr
    clear hh hs hn ho
    go_enter Tryd.func6, Tryd.ntmps6
    go_wp2_with fail
    refine (hH _).mono ?_
    rintro e w1 ⟨rfl, rfl⟩
    go_wp2_with fail
    refine (hPu _ hT).mono ?_
    rintro e w2 ⟨rfl, m2⟩
    have hT := hT.mod m2
    have c0 := keepR m2 c0
    have c1 := keepR m2 c1
    have c2 := keepR m2 c2
    have c3 := keepR m2 c3
    go_wp2_with fail
    refine (hRp _ hT).mono ?_
    rintro e w3 ⟨rfl, m3⟩
    have hT := hT.mod m3
    have c0 := keepR m3 c0
    have c1 := keepR m3 c1
    have c2 := keepR m3 c2
    have c3 := keepR m3 c3
    go_wp2_with fail
    refine (hDr _ hT).mono ?_
    rintro e w4 ⟨rfl, m4⟩
    have hT := hT.mod m4
    have c0 := keepR m4 c0
    have c1 := keepR m4 c1
    have c2 := keepR m4 c2
    have c3 := keepR m4 c3
    go_wp2_with fail
    refine (hRd _ hT).mono ?_
    rintro e w5 ⟨rfl, m5⟩
    have hT := hT.mod m5
    have c0 := keepR m5 c0
    have c1 := keepR m5 c1
    have c2 := keepR m5 c2
    have c3 := keepR m5 c3
    go_wp2_with fail
    refine (hRe _ hT).mono ?_
    rintro e w6 ⟨rfl, m6⟩
    have hT := hT.mod m6
    have c0 := keepR m6 c0
    have c1 := keepR m6 c1
    have c2 := keepR m6 c2
    have c3 := keepR m6 c3
    go_wp2_with fail
    refine (hRr _ hT).mono ?_
    rintro e w7 ⟨rfl, m7⟩
    have hT := hT.mod m7
    have c0 := keepR m7 c0
    have c1 := keepR m7 c1
    have c2 := keepR m7 c2
    have c3 := keepR m7 c3
    go_wp2_with fail
    refine (hW _ hT).mono ?_
    rintro e w8 ⟨rfl, m8⟩
    have hT := hT.mod m8
    have c0 := keepR m8 c0
    have c1 := keepR m8 c1
    have c2 := keepR m8 c2
    have c3 := keepR m8 c3
    go_wp2
    go_ret
    exact ⟨rfl, ((((((m1.trans m2).trans m3).trans m4).trans m5).trans m6).trans m7).trans m8⟩

set_option maxRecDepth 100000 in
theorem contract (H : Type) (enc : TypeId × Value → H) (W : World) (base : Nat) (args : Array Value) (ds gs : List (DataW H)) (before : List MemPlace)
    (hval : ∀ (j : Nat) t v, Tryd.f6.params[j]? = some t → args[j]? = some v → Value.okWide Tryd.prog W .any base t v)
    (hW : DataW.Whole enc Tryd.prog Tryd.f6.params.toList Rows.dirChangesSpec.vars false W args.toList ds gs before)
    (hL : laidMetH Tryd.prog Rows.dirChangesRow.laid W) :
    Calls Tryd.prog 6 args W fun e W' => ∃ v, e = .returned v ∧ Rows.dirChangesSpec.post enc Tryd.prog Tryd.f6 false true false false W args v W' := by
  have hT := tabs_of_laid W hL
  have hW' := hW
  obtain ⟨p, q, hA0, hV, rfl, hfz, hnd⟩ := hW
  have hA : DataW.TrodAll enc Tryd.prog W 0 (fun _ => true) true Tryd.f6.params.toList args.toList ds p := hA0
  rw [Tryd.params6] at hA hval
  obtain ⟨v0, vs0, d0, ds0, p0, q0, hargs, rfl, rfl, h0, r0⟩ := trodAll_cons hA
  obtain ⟨rfl, rfl, rfl⟩ := trodAll_nil r0
  obtain rfl : args = #[v0] := by cases args; simp_all
  obtain ⟨rfl, rfl⟩ := trodVars_none hV
  obtain ⟨s, n, o, x, rfl, hs, hn, ho, hx⟩ := arg_change (hval 0 24 v0 rfl rfl) h0
  clear hA0
  simp only [List.append_nil] at hW'
  refine (walk s n o x W hs hn ho hx hT).mono fun e W' ⟨he, hg⟩ => ?_
  subst he
  exact ⟨_, rfl, law_post hW' hg (by kernel_rfl) rfl rfl rfl rfl rfl⟩
set_option maxRecDepth 100000 in
theorem lifted (os : Os) (started : os.Started) (H : Type) (enc : TypeId × Value → H) :
    ReturnsInHanded {} Tryd.checked os 6 .any (fun w args => (Rows.dirChangesSpec.pre enc Tryd.prog Tryd.f6 Rows.dirChangesRow.domain false w args ∧ laidMetH Tryd.prog Rows.dirChangesRow.laid w) ∧ sizedMet enc Tryd.prog Tryd.f6 (OpenSpec.ofChange Rows.dirChangesSpec) false w args)
      (Rows.dirChangesSpec.post enc Tryd.prog Tryd.f6 false true false false) := by
  refine returnsInHanded_of_change_and (C := Tryd.checked) (X := fun w _ => laidMetH Tryd.prog Rows.dirChangesRow.laid w) (fun _ _ _ hh h => h.of_heap hh) own_knob started (by kernel_rfl) Tryd.func6
    (ChangeSpec.witness_shaped (enc := enc) (C := Tryd.checked) (os := os) (X := fun w _ => laidMetH Tryd.prog Rows.dirChangesRow.laid w) false (World.laidAll Tryd.prog os Rows.dirChangesRow.laid) #[.agg #[.string .empty, .string .empty, .string .empty, .int .u64 0]] 8 (World.laidAll_os _ _ _)
      (World.shaped_of_ZipB (by kernel_rfl) (by kernel_rfl)) (by kernel_rfl) (by kernel_rfl) (by kernel_rfl)
      (by rw [MakeChecks.laidMetH_plain _ _ _ (by kernel_rfl)]; exact laidMet_laidAll _ (by kernel_rfl) (by kernel_rfl))) ?_
  intro W base args ds gs before hval hW _ _ hL _
  exact contract H enc W base args ds gs before hval hW hL

theorem holds : Rows.DirChangesSaid :=
  OpenClaim.holds_of_wide 6 Tryd.f6 rfl rfl rfl rfl rfl rfl rfl ⟨rfl, rfl, rfl, rfl, rfl⟩ rfl rfl rfl rfl rfl (by kernel_rfl) Tryd.func6 (by kernel_rfl)
    (of_decide_eq_true (by kernel_rfl)) (by unfold Func.isWrapper; first | (rw [if_pos (by decide +kernel)]; kernel_rfl) | (rw [if_neg (by decide +kernel)]; exact ⟨rfl, rfl⟩))
    (fun os started H enc _ => lifted os started H enc)

theorem proved : Rows.DirChangesCardSaid :=
  Claim7.holds_tied_plain_at .later [] [.data, .pinned] true (true, "67b92133683c6ece50fdaa6ce9b498d57ddb0f28c7f6dfe5a40ee77b233c1a73") false holds (fun _ h => by cases h) (by kernel_rfl) (fun _ h => by cases h) dirChanges_row_tie rfl ⟨rfl, rfl⟩ (by kernel_rfl) rfl
    (fun f fn hf hfn => by
      obtain rfl : f = 6 := Option.some.inj ((show Tryd.prog.funcNamed "coffer/cofferlaw17.DirChanges" = some 6 by kernel_rfl).symm.trans hf) |>.symm
      obtain rfl : fn = Tryd.f6 := (Option.some.inj (Tryd.func6.symm.trans hfn)).symm
      exact ⟨by kernel_rfl, fun j t ht => by
        rw [Tryd.params6] at ht
        have hm : t ∈ [24] := by simpa using Array.mem_of_getElem? ht
        have hall : ([24].all fun u => !Tryd.prog.wantsStandIn u) = true := by kernel_rfl
        exact (show Tryd.prog.wantsStandIn t = false by simpa using List.all_eq_true.1 hall t hm)⟩)
    (by kernel_rfl)
end Go.Proofs.YtfkmfllhlhefdaaDoor.dirChanges
