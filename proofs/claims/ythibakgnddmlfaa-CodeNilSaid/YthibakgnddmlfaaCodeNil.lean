/-
  PROVED HERE: for every int n the law CodeNil returns true: all methods of a nil reader answer ErrNil, or nothing. No conditions.
-/
import Derived.Test.YthibakgnddmlfaaLawKit
import Derived.Test.YthibakgnddmlfaaAlive
namespace Go.Proofs.Ythibakgnddmlfaa.codeNil
open Go.ChangeShapes Go.WideShapes Go.ChangeAt Go.RowKit

set_option maxHeartbeats 400000 in
theorem get_uint8 (w : World) :
    Calls Try.prog 46 #[.pointer none, .int .i64 1] w fun e w' => e = .returned (.int .u8 0) ∧ Mod (fun _ => False) w w' := by
  go_enter Try.func46, Try.ntmps46
  go_wp2_with fail
  refine (bytes_nil 1 _).mono ?_
  rintro e w1 ⟨rfl, rfl⟩
  obtain ⟨w2, c, hk, hcell, hm2, hlt⟩ := conv_bytes (P := Try.prog) w 9 31 5 ByteArray.empty Try.underlying9 Try.underlying31 Try.underlying5
  clear hcell hlt
  go_wp2
  go_loop [5, 13] (fun x i => i = .int .i64 0 ∧ x = .int .u64 0) (fun _ i => 0 - (intOf i).toNat)
  case atStart => exact ⟨rfl, rfl⟩
  case round =>
    obtain ⟨rfl, rfl⟩ := hrel
    go_wp2
    go_ret
    exact ⟨rfl, hm2⟩
set_option maxHeartbeats 400000 in
theorem nil_U8 (w : World) :
    Calls Try.prog 30 #[.pointer none] w fun e w' => e = .returned (.int .u8 0) ∧ Mod (fun _ => False) w w' := by
  go_enter Try.func30, Try.ntmps30
  go_wp2_with fail
  refine (get_uint8 _).mono ?_
  rintro e w1 ⟨rfl, m1⟩
  go_wp2
  go_ret
  exact ⟨rfl, m1⟩
set_option maxHeartbeats 400000 in
theorem get_uint16 (w : World) :
    Calls Try.prog 47 #[.pointer none, .int .i64 2] w fun e w' => e = .returned (.int .u16 0) ∧ Mod (fun _ => False) w w' := by
  go_enter Try.func47, Try.ntmps47
  go_wp2_with fail
  refine (bytes_nil 2 _).mono ?_
  rintro e w1 ⟨rfl, rfl⟩
  obtain ⟨w2, c, hk, hcell, hm2, hlt⟩ := conv_bytes (P := Try.prog) w 9 31 5 ByteArray.empty Try.underlying9 Try.underlying31 Try.underlying5
  clear hcell hlt
  go_wp2
  go_loop [5, 13] (fun x i => i = .int .i64 0 ∧ x = .int .u64 0) (fun _ i => 0 - (intOf i).toNat)
  case atStart => exact ⟨rfl, rfl⟩
  case round =>
    obtain ⟨rfl, rfl⟩ := hrel
    go_wp2
    go_ret
    exact ⟨rfl, hm2⟩
set_option maxHeartbeats 400000 in
theorem nil_U16 (w : World) :
    Calls Try.prog 31 #[.pointer none] w fun e w' => e = .returned (.int .u16 0) ∧ Mod (fun _ => False) w w' := by
  go_enter Try.func31, Try.ntmps31
  go_wp2_with fail
  refine (get_uint16 _).mono ?_
  rintro e w1 ⟨rfl, m1⟩
  go_wp2
  go_ret
  exact ⟨rfl, m1⟩
set_option maxHeartbeats 400000 in
theorem get_uint32 (w : World) :
    Calls Try.prog 48 #[.pointer none, .int .i64 4] w fun e w' => e = .returned (.int .u32 0) ∧ Mod (fun _ => False) w w' := by
  go_enter Try.func48, Try.ntmps48
  go_wp2_with fail
  refine (bytes_nil 4 _).mono ?_
  rintro e w1 ⟨rfl, rfl⟩
  obtain ⟨w2, c, hk, hcell, hm2, hlt⟩ := conv_bytes (P := Try.prog) w 9 31 5 ByteArray.empty Try.underlying9 Try.underlying31 Try.underlying5
  clear hcell hlt
  go_wp2
  go_loop [5, 13] (fun x i => i = .int .i64 0 ∧ x = .int .u64 0) (fun _ i => 0 - (intOf i).toNat)
  case atStart => exact ⟨rfl, rfl⟩
  case round =>
    obtain ⟨rfl, rfl⟩ := hrel
    go_wp2
    go_ret
    exact ⟨rfl, hm2⟩
set_option maxHeartbeats 400000 in
theorem nil_U32 (w : World) :
    Calls Try.prog 32 #[.pointer none] w fun e w' => e = .returned (.int .u32 0) ∧ Mod (fun _ => False) w w' := by
  go_enter Try.func32, Try.ntmps32
  go_wp2_with fail
  refine (get_uint32 _).mono ?_
  rintro e w1 ⟨rfl, m1⟩
  go_wp2
  go_ret
  exact ⟨rfl, m1⟩
set_option maxHeartbeats 400000 in
theorem get_uint64 (w : World) :
    Calls Try.prog 49 #[.pointer none, .int .i64 8] w fun e w' => e = .returned (.int .u64 0) ∧ Mod (fun _ => False) w w' := by
  go_enter Try.func49, Try.ntmps49
  go_wp2_with fail
  refine (bytes_nil 8 _).mono ?_
  rintro e w1 ⟨rfl, rfl⟩
  obtain ⟨w2, c, hk, hcell, hm2, hlt⟩ := conv_bytes (P := Try.prog) w 9 31 5 ByteArray.empty Try.underlying9 Try.underlying31 Try.underlying5
  clear hcell hlt
  go_wp2
  go_loop [5, 13] (fun x i => i = .int .i64 0 ∧ x = .int .u64 0) (fun _ i => 0 - (intOf i).toNat)
  case atStart => exact ⟨rfl, rfl⟩
  case round =>
    obtain ⟨rfl, rfl⟩ := hrel
    go_wp2
    go_ret
    exact ⟨rfl, hm2⟩
set_option maxHeartbeats 400000 in
theorem nil_U64 (w : World) :
    Calls Try.prog 33 #[.pointer none] w fun e w' => e = .returned (.int .u64 0) ∧ Mod (fun _ => False) w w' := by
  go_enter Try.func33, Try.ntmps33
  go_wp2_with fail
  refine (get_uint64 _).mono ?_
  rintro e w1 ⟨rfl, m1⟩
  go_wp2
  go_ret
  exact ⟨rfl, m1⟩
set_option maxHeartbeats 400000 in
theorem nil_Text (w : World) :
    Calls Try.prog 34 #[.pointer none] w fun e w' => e = .returned (.string ByteArray.empty) ∧ w = w' := by
  go_enter_defers Try.func34, Try.ntmps34
  go_wp2
  exact ⟨_, res1 rfl rfl, rfl, rfl⟩
set_option maxHeartbeats 400000 in
theorem nil_Texts (n : Int) (w : World) :
    Calls Try.prog 35 #[.pointer none, .int .i64 n] w fun e w' => e = .returned (.slice none 0 0) ∧ w = w' := by
  go_enter_defers Try.func35, Try.ntmps35
  go_wp2
  exact ⟨_, res1 rfl rfl, rfl, rfl⟩
set_option maxHeartbeats 400000 in
theorem nil_Rest (w : World) : Calls Try.prog 26 #[.pointer none] w fun e w' => e = .returned (.string ByteArray.empty) ∧ w = w' := by
  go_enter Try.func26, Try.ntmps26
  go_wp2
  go_ret
  exact ⟨rfl, rfl⟩
set_option maxHeartbeats 400000 in
theorem nil_At (w : World) : Calls Try.prog 25 #[.pointer none] w fun e w' => e = .returned (.int .i64 0) ∧ w = w' := by
  go_enter Try.func25, Try.ntmps25
  go_wp2
  go_ret
  exact ⟨rfl, rfl⟩
set_option maxHeartbeats 400000 in
theorem nil_Fault (w : World) : Calls Try.prog 27 #[.pointer none] w fun e w' => e = .returned (.int .i64 1) ∧ w = w' := by
  go_enter Try.func27, Try.ntmps27
  go_wp2
  go_ret
  exact ⟨rfl, rfl⟩
set_option maxHeartbeats 400000 in
theorem nil_End (w : World) : Calls Try.prog 28 #[.pointer none] w fun e w' => e = .returned (.int .i64 1) ∧ w = w' := by
  go_enter Try.func28, Try.ntmps28
  go_wp2
  go_ret
  exact ⟨rfl, rfl⟩

set_option maxHeartbeats 1000000 in
theorem walk (n : Int) (w : World) :
    Calls Try.prog 7 #[.int .i64 n] w fun e w' => e = .returned (.bool true) ∧ Mod (fun _ => False) w w' := by
  go_enter Try.func7, Try.ntmps7
  go_wp2_with fail
  refine (nil_U8 _).mono ?_; rintro e w1 ⟨rfl, m1⟩
  go_wp2_with fail
  refine (nil_U16 _).mono ?_; rintro e w2 ⟨rfl, m2⟩
  go_wp2_with fail
  refine (nil_U32 _).mono ?_; rintro e w3 ⟨rfl, m3⟩
  go_wp2_with fail
  refine (nil_U64 _).mono ?_; rintro e w4 ⟨rfl, m4⟩
  go_wp2_with fail
  refine (nil_Text _).mono ?_; rintro e w5 ⟨rfl, rfl⟩
  go_wp2_with fail
  refine (nil_Texts n _).mono ?_; rintro e w5 ⟨rfl, rfl⟩
  go_wp2_with fail
  refine (bytes_nil n _).mono ?_; rintro e w5 ⟨rfl, rfl⟩
  go_wp2_with fail
  refine (nil_Rest _).mono ?_; rintro e w5 ⟨rfl, rfl⟩
  go_wp2_with fail
  refine (nil_At _).mono ?_; rintro e w5 ⟨rfl, rfl⟩
  go_wp2_with fail
  refine (nil_Fault _).mono ?_; rintro e w5 ⟨rfl, rfl⟩
  go_wp2_with fail
  refine (nil_End _).mono ?_; rintro e w5 ⟨rfl, rfl⟩
  go_wp2_with fail
  refine (alive_any _).mono ?_; rintro e w5 ⟨rfl, m5⟩
  go_wp2
  go_ret
  exact ⟨rfl, (((m1.trans m2).trans m3).trans m4).trans m5⟩

theorem contract (H : Type) (enc : TypeId × Value → H) (W : World) (base : Nat) (args : Array Value) (ds gs : List (DataW H)) (before : List MemPlace)
    (hval : ∀ (j : Nat) t v, Try.f7.params[j]? = some t → args[j]? = some v → Value.okWide Try.prog W .any base t v)
    (hW : DataW.Whole enc Try.prog Try.f7.params.toList Rows.codeNilSpec.vars false W args.toList ds gs before) :
    Calls Try.prog 7 args W fun e W' => ∃ v, e = .returned v ∧ Rows.codeNilSpec.post enc Try.prog Try.f7 false true false false W args v W' := by
  have hW' := hW
  obtain ⟨p, q, hA0, hV, rfl, hfz, hnd⟩ := hW
  have hA : DataW.TrodAll enc Try.prog W 0 (fun _ => true) true Try.f7.params.toList args.toList ds p := hA0
  rw [Try.params7] at hA hval
  obtain ⟨v0, vs0, d0, ds0, p0, q0, hargs, rfl, rfl, h0, r0⟩ := trodAll_cons hA
  obtain ⟨rfl, rfl, rfl⟩ := trodAll_nil r0
  obtain rfl : args = #[v0] := by cases args; simp_all
  obtain ⟨n, rfl, rfl, rfl, hmax⟩ := open_int Try.underlying3 (hval 0 3 v0 rfl rfl) h0
  clear hA0
  refine (walk n W).mono fun e W' ⟨he, hg⟩ => ?_
  subst he
  exact ⟨_, rfl, law_post hW' hg (by kernel_rfl) rfl rfl rfl rfl rfl⟩

set_option maxRecDepth 100000 in
theorem lifted (os : Os) (started : os.Started) (H : Type) (enc : TypeId × Value → H) :
    ReturnsInHanded {} Try.checked os 7 .any (Rows.codeNilSpec.pre6 enc Try.prog Try.f7 Rows.codeNilRow.domain false) (Rows.codeNilSpec.post enc Try.prog Try.f7 false true false false) := by
  refine returnsInHanded_of_change (C := Try.checked) own_knob started (by kernel_rfl) Try.func7
    (ChangeSpec.witness6 (enc := enc) (C := Try.checked) false ⟨#[], #[.int .i64 0], []⟩ 8 (by kernel_rfl) (by kernel_rfl) (by kernel_rfl) (by kernel_rfl)) ?_
  intro W base args ds gs before hval hW _ _
  exact contract H enc W base args ds gs before hval hW

theorem proved : Rows.CodeNilSaid :=
  OpenClaim.holds_of_wide 7 Try.f7 rfl rfl rfl rfl rfl rfl rfl ⟨rfl, rfl, rfl, rfl, rfl⟩ rfl rfl rfl rfl rfl (by kernel_rfl) Try.func7 (by kernel_rfl)
    (of_decide_eq_true (by kernel_rfl)) (by unfold Func.isWrapper; first | (rw [if_pos (by decide +kernel)]; kernel_rfl) | (rw [if_neg (by decide +kernel)]; exact ⟨rfl, rfl⟩))
    (fun os started H enc _ => lifted os started H enc)
end Go.Proofs.Ythibakgnddmlfaa.codeNil
