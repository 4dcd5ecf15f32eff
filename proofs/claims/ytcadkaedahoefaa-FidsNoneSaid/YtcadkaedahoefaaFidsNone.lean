/- FidsNone: what is no table and no tags answers the error for nil, or nothing; for every number and every tag. -/
import Derived.Test.YtcadkaedahoefaaLawKit
import Derived.Test.YtcadkaedahoefaaFidWorks
namespace Go.Proofs.Ytcadkaedahoefaa.fidsNone
open Go.ChangeShapes Go.WideShapes Go.ChangeAt Go.RowKit

theorem wf_lt {k : IntKind} {x : Int} {m : Int} (h : (Lit.int k x).wf = true) (h0 : k.min = 0) (h1 : k.max = m) : ∃ n : Nat, x = n ∧ (n : Int) ≤ m := by
  simp only [Lit.wf, Bool.and_eq_true, decide_eq_true_eq, h0, h1] at h
  exact ⟨x.toNat, by omega, by omega⟩
set_option maxRecDepth 100000 in
set_option maxHeartbeats 4000000 in
theorem walk (n tag : Nat) (w : World) :
    Calls Try.prog 6 #[.int .u32 n, .int .u16 tag] w fun e w' => e = .returned (.bool true) ∧ Mod (fun _ => False) w w' := by
  have h1 := fun U => fget_nil U n
  have h2 := fun U => fdrop_nil U n
  have h3 := fun U => tend_nil U tag
  have h4 := fun U => tflush_nil U tag tag
  have h5 := fun U => fadd_nil U n
  have h6 := fun U => fset_nil U n
  have h7 := fun U => tbegin_nil U tag
  have h8 : ∀ U, Calls Try.prog 28 #[.pointer none, .int .u64 1] U fun e w' => e = .returned (.int .i64 0) ∧ Mod (fun _ => False) U w' := fun U => fon_nil U 1
  have h9 := flen_nil
  have h10 := fall_nil
  have h11 := topen_nil
  have h12 := works_any
  unfold ZF at h1 h2 h6
  have HM := Lib.hid (Mod.refl (fun _ => False) w)
  go_enter Try.func6, Try.ntmps6
  go_wp2_with fail
  refine (h1 _).mono ?_
  rintro e w1 ⟨rfl, mm⟩
  replace HM := Lib.hid (HM.out.trans mm)
  clear mm
  go_wp2_with fail
  refine (h2 _).mono ?_
  rintro e w2 ⟨rfl, mm⟩
  replace HM := Lib.hid (HM.out.trans mm.ofAlloc)
  clear mm
  go_wp2_with fail
  refine (h3 _).mono ?_
  rintro e w3 ⟨rfl, mm⟩
  replace HM := Lib.hid (HM.out.trans mm.ofAlloc)
  clear mm
  go_wp2_with fail
  refine (h4 _).mono ?_
  rintro e w4 ⟨rfl, mm⟩
  replace HM := Lib.hid (HM.out.trans mm)
  clear mm
  go_wp2_with fail
  refine (h5 _).mono ?_
  rintro e w5 ⟨rfl, mm⟩
  replace HM := Lib.hid (HM.out.trans mm)
  clear mm
  go_wp2_with fail
  refine (h6 _).mono ?_
  rintro e w6 ⟨rfl, mm⟩
  replace HM := Lib.hid (HM.out.trans mm)
  clear mm
  go_wp2_with fail
  refine (h7 _).mono ?_
  rintro e w7 ⟨rfl, mm⟩
  replace HM := Lib.hid (HM.out.trans mm)
  clear mm
  go_wp2_with fail
  refine (h8 _).mono ?_
  rintro e w8 ⟨rfl, mm⟩
  replace HM := Lib.hid (HM.out.trans mm)
  clear mm
  go_wp2_with fail
  refine (h9 _).mono ?_
  rintro e w9 ⟨rfl, mm⟩
  replace HM := Lib.hid (HM.out.trans mm)
  clear mm
  go_wp2_with fail
  refine (h10 _).mono ?_
  rintro e w10 ⟨rfl, mm⟩
  replace HM := Lib.hid (HM.out.trans mm)
  clear mm
  go_wp2_with fail
  refine (h11 _).mono ?_
  rintro e w11 ⟨rfl, mm⟩
  replace HM := Lib.hid (HM.out.trans mm)
  clear mm
  go_wp2_with fail
  refine (h12 _).mono ?_
  rintro e w12 ⟨rfl, mm⟩
  replace HM := Lib.hid (HM.out.trans mm)
  clear mm
  go_wp2
  go_ret
  exact ⟨rfl, HM.out⟩

set_option maxRecDepth 100000 in
theorem contract (H : Type) (enc : TypeId × Value → H) (W : World) (base : Nat) (args : Array Value) (ds gs : List (DataW H)) (before : List MemPlace)
    (hval : ∀ (j : Nat) t v, Try.f6.params[j]? = some t → args[j]? = some v → Value.okWide Try.prog W .any base t v)
    (hW : DataW.Whole enc Try.prog Try.f6.params.toList Rows.fidsNoneSpec.vars false W args.toList ds gs before) :
    Calls Try.prog 6 args W fun e W' => ∃ v, e = .returned v ∧ Rows.fidsNoneSpec.post enc Try.prog Try.f6 false true false false W args v W' := by
  have hW' := hW
  obtain ⟨p, q, hA0, hV, rfl, hfz, hnd⟩ := hW
  have hA : DataW.TrodAll enc Try.prog W 0 (fun _ => true) true Try.f6.params.toList args.toList ds p := hA0
  rw [Try.params6] at hA hval
  obtain ⟨v0, vs0, d0, ds0, p0, q0, hargs, rfl, rfl, h0, r0⟩ := trodAll_cons hA
  obtain ⟨v1, vs1, d1, ds1, p1, q1, hargs1, rfl, rfl, h1, r1⟩ := trodAll_cons r0
  obtain ⟨rfl, rfl, rfl⟩ := trodAll_nil r1
  obtain rfl : args = #[v0, v1] := by cases args; simp_all
  obtain ⟨rfl, rfl⟩ := trodVars_none hV
  obtain ⟨n, rfl, rfl, rfl, hn⟩ := open_int Try.underlying56 (hval 0 56 v0 rfl rfl) h0
  obtain ⟨t, rfl, rfl, rfl, ht⟩ := open_int Try.underlying29 (hval 1 29 v1 rfl rfl) h1
  obtain ⟨n, rfl, _⟩ := wf_lt (m := 4294967295) hn rfl rfl
  obtain ⟨t, rfl, _⟩ := wf_lt (m := 65535) ht rfl rfl
  clear hA0
  simp only [List.append_nil] at hW'
  refine (walk n t W).mono fun e W' ⟨he, hg⟩ => ?_
  subst he
  exact ⟨_, rfl, law_post hW' hg (by kernel_rfl) rfl rfl rfl rfl rfl⟩
set_option maxRecDepth 100000 in
theorem lifted (os : Os) (started : os.Started) (H : Type) (enc : TypeId × Value → H) :
    ReturnsInHanded {} Try.checked os 6 .any (Rows.fidsNoneSpec.pre6 enc Try.prog Try.f6 Rows.fidsNoneRow.domain false) (Rows.fidsNoneSpec.post enc Try.prog Try.f6 false true false false) := by
  refine returnsInHanded_of_change (C := Try.checked) own_knob started (by kernel_rfl) Try.func6
    (ChangeSpec.witness6 (enc := enc) (C := Try.checked) false ⟨#[], #[.int .u32 0, .int .u16 0], []⟩ 8 (by kernel_rfl) (by kernel_rfl) (by kernel_rfl) (by kernel_rfl)) ?_
  intro W base args ds gs before hval hW _ _
  exact contract H enc W base args ds gs before hval hW

theorem proved : Rows.FidsNoneSaid :=
  OpenClaim.holds_of_wide 6 Try.f6 rfl rfl rfl rfl rfl rfl rfl ⟨rfl, rfl, rfl, rfl, rfl⟩ rfl rfl rfl rfl rfl (by kernel_rfl) Try.func6 (by kernel_rfl)
    (of_decide_eq_true (by kernel_rfl)) (by unfold Func.isWrapper; first | (rw [if_pos (by decide +kernel)]; kernel_rfl) | (rw [if_neg (by decide +kernel)]; exact ⟨rfl, rfl⟩))
    (fun os started H enc _ => lifted os started H enc)
end Go.Proofs.Ytcadkaedahoefaa.fidsNone
