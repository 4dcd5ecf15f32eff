/- DirFull. -/
import Derived.Test.YtfkmfllhlhefdaaDoorLawDir
import Derived.Test.YtfkmfllhlhefdaaDoorLawChange
import Derived.Test.YtfkmfllhlhefdaaDoorDirWorks
import Derived.Test.YtfkmfllhlhefdaaDoorDirRef5
import Derived.Test.YtfkmfllhlhefdaaDoorPDirFull
namespace Go.Proofs.YtfkmfllhlhefdaaDoor.dirFull
open Go.ChangeShapes Go.WideShapes Go.ChangeAt Go.RowKit

theorem put_emptyF {i : Nat} (h : i < 112) : putS ⟨#[]⟩ (nameF i) (i + 1) = (slotB (i + 1) (nameF i), 0, 0) := by
  have e := put_intro (n := nameF i) (p := i + 1) isDir_empty (nameF_ok h) (by omega) (fun e he => (by rw [ents_empty] at he; cases he)) (by rw [free_empty]; decide)
  rw [free_empty] at e
  refine e.trans ?_
  unfold withS
  rw [if_pos (by decide)]
  rw [show ByteArray.empty ++ slotB (i + 1) (nameF i) = slotB (i + 1) (nameF i) from ByteArray.empty_append]
theorem conv_nameF {P : Program} (src dst e : TypeId) (i : Nat) (hi : i < 112)
    (hs : P.underlying src = some (.slice e)) (he : P.underlying e = some (.int .u8)) (hd : P.underlying dst = some .string) (w : World) :
    (convert src dst (.slice (some ⟨w.heap.size, 0, none⟩) 3 3)).run P (w.alloc (.cells #[.int .u8 (97 + (i : Int) / 676), .int .u8 (97 + (i : Int) / 26 % 26), .int .u8 (97 + (i : Int) % 26)] e)) =
      .ok (.string (bs [UInt8.ofNat (97 + i / 676), UInt8.ofNat (97 + i / 26 % 26), UInt8.ofNat (97 + i % 26)])) (w.alloc (.cells #[.int .u8 (97 + (i : Int) / 676), .int .u8 (97 + (i : Int) / 26 % 26), .int .u8 (97 + (i : Int) % 26)] e)) := by
  have h := conv_new (P := P) src dst e 3 [UInt8.ofNat (97 + i / 676), UInt8.ofNat (97 + i / 26 % 26), UInt8.ofNat (97 + i % 26)] rfl hs he hd w
  simp only [bc, List.map_cons, List.map_nil] at h
  rw [u8_nat (by omega), u8_nat (by omega), u8_nat (by omega), show ((97 + i / 676 : Nat) : Int) = 97 + (i : Int) / 676 by omega, show ((97 + i / 26 % 26 : Nat) : Int) = 97 + (i : Int) / 26 % 26 by omega, show ((97 + i % 26 : Nat) : Int) = 97 + (i : Int) % 26 by omega] at h
  exact h
theorem nameF_cat (i : Nat) : (⟨#[102]⟩ : ByteArray) ++ bs [UInt8.ofNat (97 + i / 676), UInt8.ofNat (97 + i / 26 % 26), UInt8.ofNat (97 + i % 26)] = nameF i := (bs_cat [102] _).symm
set_option maxRecDepth 100000 in
set_option maxHeartbeats 4000000 in
theorem walk (x : Nat) (w : World) (hx : x < 256) (hT : Tabs w) :
    Calls Tryd.prog 4 #[.int .u8 x] w fun e w' => e = .returned (.bool true) ∧ Mod (fun _ => False) w w' := by
  have hW := works_any
  obtain ⟨k, hke, hk⟩ : ∃ k : Nat, (112 : Int) - (x : Int) % 3 = k ∧ k ≤ 112 := ⟨(112 - (x : Int) % 3).toNat, by omega, by omega⟩
  have hok : Hid (∀ j, j ≤ k → FullOk j) := fun j hj => full_ok j (by omega)
  have h0 : Hid (fullS 0 = ⟨#[]⟩) := rfl
  have hap : ∀ x y : ByteArray, (x ++ y).size = x.size + y.size := fun x y => ByteArray.size_append
  have HM := Lib.hid (Mod.refl (fun _ => False) w)
  go_enter Tryd.func4, Tryd.ntmps4
  go_wp2
  go_loopw [2, 4, 5] (fun r t i wr => ∃ (j : Nat), j ≤ k ∧ r = .bool false ∧ t = .string (fullS j) ∧ i = .int .i64 j ∧ Hid (Mod (fun _ => False) w wr)) (fun _ _ i _ => k - (intOf i).toNat)
  case atStart => exact ⟨0, by omega, rfl, rfl, rfl, Mod.refl _ _⟩
  case round =>
    obtain ⟨j, hj, rfl, rfl, rfl, HMr⟩ := hrel
    by_cases hlt : j < k
    · have t1 : decide ((j : Int) < (k : Int)) = true := by simp; omega
      have hj1 : j < 112 := by omega
      have hsz := (hok.out j hj).size
      have hz := conv_nameF (P := Tryd.prog) 31 9 5 j hj1 Tryd.underlying31 Tryd.underlying5 Tryd.underlying9
      have hcat := nameF_cat j
      have hns := (nameOk_size (nameF_ok hj1)).2
      have hPu : ∀ U, Tabs U → Calls Tryd.prog 14 #[.string ⟨#[]⟩, .string (nameF j), .int .u64 ((j : Int) + 1)] U fun e w' => e = .returned (.tuple #[.string (slotB (j + 1) (nameF j)), .int .i64 0, .int .i64 0]) ∧ Mod (fun _ => False) U w' := fun U hT => by
        have := rput_any ⟨#[]⟩ (nameF j) (j + 1) U (by decide) (by omega) (by omega) hT
        rw [put_emptyF hj1] at this
        exact this
      have hsl := slotB_size (p := j + 1) (n := nameF j) hns
      have hnx : Hid (fullS (j + 1) = fullS j ++ slotB (j + 1) (nameF j)) := rfl
      have hb3 : (bs [UInt8.ofNat (97 + j / 676), UInt8.ofNat (97 + j / 26 % 26), UInt8.ofNat (97 + j % 26)]).size = 3 := rfl
      generalize slotB (j + 1) (nameF j) = y at *
      generalize bs [UInt8.ofNat (97 + j / 676), UInt8.ofNat (97 + j / 26 % 26), UInt8.ofNat (97 + j % 26)] = b3 at *
      generalize nameF j = nm at *
      obtain ⟨s, hs⟩ : ∃ s, fullS j = s := ⟨_, rfl⟩
      rw [hs] at hsz hnx ⊢
      replace hs := Lib.hid hs
      clear hns
      go_wp2_with fail
      refine (hPu _ ((hT.mod HMr.out).mod ((Mod.refl (fun _ => False) _).alloc _))).mono ?_
      rintro e w5 ⟨rfl, m5⟩
      replace HMr := Lib.hid (HMr.out.trans (((Mod.refl (fun _ => False) _).alloc _).trans m5))
      clear m5 hPu hz
      go_wp2
      go_roundw
      case rel => exact ⟨j + 1, hlt, rfl, by rw [hnx.out], by go_num, HMr⟩
      case measure => simp [intOf]; omega
    · obtain rfl : j = k := by omega
      have t1 : decide ((j : Int) < (j : Int)) = false := by simp
      obtain ⟨z1, z2, z3, z4, z5⟩ := hok.out j (Nat.le_refl _)
      have hCh := fun U => check_any (fullS j) U (by omega)
      have hCo := fun U => count_any (fullS j) U (by omega)
      rw [z2.list] at hCh
      rw [z5] at hCo
      simp only [okE, Option.isSome_some, if_true] at hCh
      have hP1 := fun U => put_any (fullS j) moreB 1099511627776 U (by omega) (by decide) (by decide)
      replace hT := hT.mod HMr.out
      replace HM := Lib.hid (HM.out.trans HMr.out)
      clear HMr
      by_cases hj2 : j = 112
      · have fi := full_is hj2
        obtain ⟨u, v, d1, d2, d3, d4⟩ := full_drop fi
        have hD := fun U => drop_any (fullS j) faadB U (by omega) (by decide)
        have hP2 := fun U => put_any u moreB 1099511627776 U (by omega) (by decide) (by decide)
        have hov := fun U => check_any (fullS j ++ (fullS j).extract 0 64) U (by rw [ByteArray.size_append, ByteArray.size_extract]; omega)
        rw [full_over fi] at hov
        simp only [okE, Option.isSome_none, Bool.false_eq_true, if_false] at hov
        rw [full_end fi] at hP1
        rw [d1] at hD
        rw [d2] at hP2
        have e1 : (v.size : Int) = 7168 := by rw [d3]; rfl
        have e3 : (64 : Int) ≤ ((fullS j).size : Int) := by rw [fi.size]; decide
        have e4 : (64 : Nat) ≤ (fullS j).size := by rw [fi.size]; decide
        have e5 : (fullS j).size = 7168 := fi.size
        have e6 : ((fullS j).extract 0 64).size = 64 := by rw [ByteArray.size_extract, fi.size]; rfl
        unfold putV at hP1 hP2 hD
        simp only at hP1 hP2 hD
        generalize fullS j = s at *
        clear fi d1 d2 z1 z2 z3 z4 z5 d3 d4 hok
        subst hj2
        unfold moreB faadB at *
        go_wp2_with fail
        refine (hCh _ hT).mono ?_
        rintro e w2 ⟨rfl, mm⟩
        replace hT := hT.mod mm
        replace HM := Lib.hid (HM.out.trans mm)
        clear mm
        go_wp2_with fail
        refine (hCo _ hT).mono ?_
        rintro e w3 ⟨rfl, mm⟩
        replace hT := hT.mod mm
        replace HM := Lib.hid (HM.out.trans mm)
        clear mm
        go_wp2_with fail
        refine (hP1 _ hT).mono ?_
        rintro e w4 ⟨rfl, mm⟩
        replace hT := hT.mod mm
        replace HM := Lib.hid (HM.out.trans mm)
        clear mm
        go_wp2_with fail
        refine (hD _ hT).mono ?_
        rintro e w5 ⟨rfl, mm⟩
        replace hT := hT.mod mm
        replace HM := Lib.hid (HM.out.trans mm)
        clear mm
        go_wp2_with fail
        refine (hP2 _ hT).mono ?_
        rintro e w6 ⟨rfl, mm⟩
        replace hT := hT.mod mm
        replace HM := Lib.hid (HM.out.trans mm)
        clear mm
        go_wp2_with fail
        refine (hov _ hT).mono ?_
        rintro e w7 ⟨rfl, mm⟩
        replace hT := hT.mod mm
        replace HM := Lib.hid (HM.out.trans mm)
        clear mm
        go_wp2_with fail
        refine (hW _ hT).mono ?_
        rintro e w8 ⟨rfl, mm⟩
        replace hT := hT.mod mm
        replace HM := Lib.hid (HM.out.trans mm)
        clear mm
        go_wp2
        go_ret
        exact ⟨rfl, HM.out⟩
      · obtain ⟨t, d1, d2⟩ := full_put (k := j) (by omega)
        rw [d1] at hP1
        unfold putV at hP1
        simp only at hP1
        have e1 : ((t.size : Int) == ((fullS j).size : Int) + 64) = true := by rw [d2]; simp
        have e2 : ((j : Int) == 112) = false := by simp; omega
        have e3 : ((j : Int) == (j : Int)) = true := by simp
        have e4 : (fullS j).size ≤ 7168 := by omega
        generalize fullS j = s at *
        clear d1 d2 z1 z2 z3 z4 z5 hok
        unfold moreB at *
        go_wp2_with fail
        refine (hCh _ hT).mono ?_
        rintro e w2 ⟨rfl, mm⟩
        replace hT := hT.mod mm
        replace HM := Lib.hid (HM.out.trans mm)
        clear mm
        go_wp2_with fail
        refine (hCo _ hT).mono ?_
        rintro e w3 ⟨rfl, mm⟩
        replace hT := hT.mod mm
        replace HM := Lib.hid (HM.out.trans mm)
        clear mm
        go_wp2_with fail
        refine (hP1 _ hT).mono ?_
        rintro e w4 ⟨rfl, mm⟩
        replace hT := hT.mod mm
        replace HM := Lib.hid (HM.out.trans mm)
        clear mm
        go_wp2_with fail
        refine (hW _ hT).mono ?_
        rintro e w5 ⟨rfl, mm⟩
        replace hT := hT.mod mm
        replace HM := Lib.hid (HM.out.trans mm)
        clear mm
        go_wp2
        go_ret
        exact ⟨rfl, HM.out⟩

set_option maxRecDepth 100000 in
theorem contract (H : Type) (enc : TypeId × Value → H) (W : World) (base : Nat) (args : Array Value) (ds gs : List (DataW H)) (before : List MemPlace)
    (hval : ∀ (j : Nat) t v, Tryd.f4.params[j]? = some t → args[j]? = some v → Value.okWide Tryd.prog W .any base t v)
    (hW : DataW.Whole enc Tryd.prog Tryd.f4.params.toList Rows.dirFullSpec.vars false W args.toList ds gs before)
    (hL : laidMetH Tryd.prog Rows.dirFullRow.laid W) :
    Calls Tryd.prog 4 args W fun e W' => ∃ v, e = .returned v ∧ Rows.dirFullSpec.post enc Tryd.prog Tryd.f4 false true false false W args v W' := by
  have hT := tabs_of_laid W hL
  have hW' := hW
  obtain ⟨p, q, hA0, hV, rfl, hfz, hnd⟩ := hW
  have hA : DataW.TrodAll enc Tryd.prog W 0 (fun _ => true) true Tryd.f4.params.toList args.toList ds p := hA0
  rw [Tryd.params4] at hA hval
  obtain ⟨v0, vs0, d0, ds0, p0, q0, hargs, rfl, rfl, h0, r0⟩ := trodAll_cons hA
  obtain ⟨rfl, rfl, rfl⟩ := trodAll_nil r0
  obtain rfl : args = #[v0] := by cases args; simp_all
  obtain ⟨rfl, rfl⟩ := trodVars_none hV
  obtain ⟨x, rfl, rfl, rfl, hx⟩ := open_int Tryd.underlying5 (hval 0 5 v0 rfl rfl) h0
  clear hA0
  simp only [List.append_nil] at hW'
  obtain ⟨m, rfl, hm⟩ := wf_lt (m := 255) hx rfl rfl
  refine (walk m W (by omega) hT).mono fun e W' ⟨he, hg⟩ => ?_
  subst he
  exact ⟨_, rfl, law_post hW' hg (by kernel_rfl) rfl rfl rfl rfl rfl⟩
set_option maxRecDepth 100000 in
theorem lifted (os : Os) (started : os.Started) (H : Type) (enc : TypeId × Value → H) :
    ReturnsInHanded {} Tryd.checked os 4 .any (fun w args => (Rows.dirFullSpec.pre enc Tryd.prog Tryd.f4 Rows.dirFullRow.domain false w args ∧ laidMetH Tryd.prog Rows.dirFullRow.laid w) ∧ sizedMet enc Tryd.prog Tryd.f4 (OpenSpec.ofChange Rows.dirFullSpec) false w args)
      (Rows.dirFullSpec.post enc Tryd.prog Tryd.f4 false true false false) := by
  refine returnsInHanded_of_change_and (C := Tryd.checked) (X := fun w _ => laidMetH Tryd.prog Rows.dirFullRow.laid w) (fun _ _ _ hh h => h.of_heap hh) own_knob started (by kernel_rfl) Tryd.func4
    (ChangeSpec.witness_shaped (enc := enc) (C := Tryd.checked) (os := os) (X := fun w _ => laidMetH Tryd.prog Rows.dirFullRow.laid w) false (World.laidAll Tryd.prog os Rows.dirFullRow.laid) #[.int .u8 0] 8 (World.laidAll_os _ _ _)
      (World.shaped_of_ZipB (by kernel_rfl) (by kernel_rfl)) (by kernel_rfl) (by kernel_rfl) (by kernel_rfl)
      (by rw [MakeChecks.laidMetH_plain _ _ _ (by kernel_rfl)]; exact laidMet_laidAll _ (by kernel_rfl) (by kernel_rfl))) ?_
  intro W base args ds gs before hval hW _ _ hL _
  exact contract H enc W base args ds gs before hval hW hL

theorem holds : Rows.DirFullSaid :=
  OpenClaim.holds_of_wide 4 Tryd.f4 rfl rfl rfl rfl rfl rfl rfl ⟨rfl, rfl, rfl, rfl, rfl⟩ rfl rfl rfl rfl rfl (by kernel_rfl) Tryd.func4 (by kernel_rfl)
    (of_decide_eq_true (by kernel_rfl)) (by unfold Func.isWrapper; first | (rw [if_pos (by decide +kernel)]; kernel_rfl) | (rw [if_neg (by decide +kernel)]; exact ⟨rfl, rfl⟩))
    (fun os started H enc _ => lifted os started H enc)

theorem proved : Rows.DirFullCardSaid :=
  Claim7.holds_tied_plain_at .later [] [.data, .pinned] true (true, "67b92133683c6ece50fdaa6ce9b498d57ddb0f28c7f6dfe5a40ee77b233c1a73") false holds (fun _ h => by cases h) (by kernel_rfl) (fun _ h => by cases h) dirFull_row_tie rfl ⟨rfl, rfl⟩ (by kernel_rfl) rfl
    (fun f fn hf hfn => by
      obtain rfl : f = 4 := Option.some.inj ((show Tryd.prog.funcNamed "coffer/cofferlaw17.DirFull" = some 4 by kernel_rfl).symm.trans hf) |>.symm
      obtain rfl : fn = Tryd.f4 := (Option.some.inj (Tryd.func4.symm.trans hfn)).symm
      exact ⟨by kernel_rfl, fun j t ht => by
        rw [Tryd.params4] at ht
        have hm : t ∈ [5] := by simpa using Array.mem_of_getElem? ht
        have hall : ([5].all fun u => !Tryd.prog.wantsStandIn u) = true := by kernel_rfl
        exact (show Tryd.prog.wantsStandIn t = false by simpa using List.all_eq_true.1 hall t hm)⟩)
    (by kernel_rfl)
end Go.Proofs.YtfkmfllhlhefdaaDoor.dirFull
