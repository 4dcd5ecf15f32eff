/-
  PROVED HERE: for every int more and every bool many the law CodeLong returns true: texts, and lists of them, at their bounds. No conditions.
-/
import Derived.Test.YthibakgnddmlfaaLawKit
import Derived.Test.YthibakgnddmlfaaAlive
import Derived.Test.YthibakgnddmlfaaPBack
namespace Go.Proofs.Ythibakgnddmlfaa.codeLong
open Go.ChangeShapes Go.WideShapes Go.ChangeAt Go.RowKit

/-- 'more & 3' -/
theorem and3 (n : Int) : 0 ≤ bits BinOp.and IntKind.i64 n 3 ∧ bits BinOp.and IntKind.i64 n 3 ≤ 3 := by
  have h : ((BitVec.ofInt 64 n) &&& (BitVec.ofInt 64 3)).toNat ≤ 3 := by
    rw [BitVec.toNat_and, show (BitVec.ofInt 64 3).toNat = 3 from rfl]
    exact Nat.and_le_right
  show 0 ≤ IntKind.i64.wrap ((((BitVec.ofInt 64 n) &&& (BitVec.ofInt 64 3)).toNat : Nat) : Int) ∧ IntKind.i64.wrap ((((BitVec.ofInt 64 n) &&& (BitVec.ofInt 64 3)).toNat : Nat) : Int) ≤ 3
  generalize ((BitVec.ofInt 64 n) &&& (BitVec.ofInt 64 3)).toNat = q at h
  rw [IntKind.wrap_i64]
  omega

theorem txts_empty (n : Nat) : (txts (List.replicate n ByteArray.empty)).length = 2 * n := by
  induction n with
  | zero => rfl
  | succ n ih => rw [List.replicate_succ, txts, List.length_append, txt_length, ih]; show 2 + 0 + 2 * n = _; omega

theorem mkS (n : Nat) (N : Int) (hN : N = n) (hn : n ≤ 70000) : ∀ w : World, (Instr.makeSlice 29 (.int .i64 N) (.int .i64 N)).run Try.prog w = .ok (.slice (some ⟨w.heap.size, 0, none⟩) n n) (w.alloc (.cells (List.replicate n (.string ByteArray.empty)).toArray 9)) :=
  make_rowI 29 9 (.string ByteArray.empty) 16 n N hN Try.underlying29 info_string rfl (by omega) (by unfold maxLen; omega)
theorem mkB (n : Nat) (N : Int) (hN : N = n) (hn : n ≤ 70000) : ∀ w : World, (Instr.makeSlice 31 (.int .i64 N) (.int .i64 N)).run Try.prog w = .ok (.slice (some ⟨w.heap.size, 0, none⟩) n n) (w.alloc (.cells (bc (List.replicate n 0)).toArray 5)) := by
  rw [← bc_zeros]
  exact make_rowI 31 5 (.int .u8 0) 1 n N hN Try.underlying31 info_u8 rfl (by omega) (by unfold maxLen; omega)

set_option maxHeartbeats 2000000 in
theorem walk_many (more : Int) (w : World) :
    Calls Try.prog 4 #[.int .i64 more, .bool true] w fun e w' => e = .returned (.bool true) ∧ Mod (fun _ => False) w w' := by
  obtain ⟨ha1, ha2⟩ := and3 more
  obtain ⟨n, hn⟩ : ∃ n : Nat, 65534 + bits BinOp.and IntKind.i64 more 3 = n := ⟨(65534 + bits BinOp.and IntKind.i64 more 3).toNat, by omega⟩
  have hnb : n ≤ 65537 := by omega
  have hmk := mkS n _ hn (by omega)
  have HN := Lib.hid hn; clear hn
  have HS : Hid (SlAt (w.alloc (.cells (List.replicate n (.string ByteArray.empty)).toArray 9)) (fun _ => True) (.slice (some ⟨w.heap.size, 0, none⟩) n n) ((List.replicate n ByteArray.empty).map Value.string)) := by
    refine .inr ⟨w.heap.size, 0, n, by rw [List.length_map, List.length_replicate], trivial, by simp, by rw [List.length_map, List.length_replicate]; exact Nat.le_refl _, fun j u hj => ?_⟩
    rw [Nat.zero_add, cell_of (new_at _ _), List.getElem?_toArray]
    rw [List.map_replicate] at hj
    exact hj
  have hls : Hid (∀ s ∈ List.replicate n ByteArray.empty, s.size ≤ 65535) := fun s hs => by rw [List.eq_of_mem_replicate hs]; exact Nat.zero_le _
  have hlm : Hid (∀ s ∈ List.replicate n ByteArray.empty, s.size ≤ maxLen) := fun s hs => by rw [List.eq_of_mem_replicate hs]; exact Nat.zero_le _
  have hLe : Hid ((List.replicate n ByteArray.empty).length = n) := List.length_replicate
  by_cases hb : n ≤ 65535
  · have hW : Hid (wTexts (List.replicate n ByteArray.empty) = (bs (leBytes 2 n ++ txts (List.replicate n ByteArray.empty)), 0)) := by
      have := wTexts_txts (l := List.replicate n ByteArray.empty) (by rw [hLe.out]; omega) hls.out
      rw [hLe.out] at this
      exact this
    have hz : ((bs (leBytes 2 n ++ txts (List.replicate n ByteArray.empty))).size : Int) = 2 + 2 * (65534 + bits BinOp.and IntKind.i64 more 3) := by
      rw [bs_size, List.length_append, leBytes_length, txts_empty, HN.out]; omega
    have hz' : (((bs (leBytes 2 n ++ txts (List.replicate n ByteArray.empty))).size : Int) == 2 + 2 * (65534 + bits BinOp.and IntKind.i64 more 3)) = true := by rw [beq_iff_eq]; exact hz
    have hle : decide (65534 + bits BinOp.and IntKind.i64 more 3 ≤ 65535) = true := by rw [decide_eq_true_eq, HN.out]; omega
    clear hz
    go_enter Try.func4, Try.ntmps4
    go_wp2_with fail
    refine (texts_w _ _ _ HS.out hlm.out (by rw [hLe.out]; unfold maxLen; omega)).mono ?_
    rw [hW.out]
    rintro e w1 ⟨rfl, m1⟩
    generalize bs (leBytes 2 n ++ txts (List.replicate n ByteArray.empty)) = t at *
    go_wp2_with fail
    refine (alive_any _).mono ?_; rintro e w2 ⟨rfl, m2⟩
    go_wp2
    go_ret
    exact ⟨rfl, m1.ofAlloc.trans m2⟩
  · have hW : Hid (wTexts (List.replicate n ByteArray.empty) = (ByteArray.empty, 4)) := wTexts_long (by rw [hLe.out]; omega)
    have hle : decide (65534 + bits BinOp.and IntKind.i64 more 3 ≤ 65535) = false := by rw [decide_eq_false_iff_not, HN.out]; omega
    go_enter Try.func4, Try.ntmps4
    go_wp2_with fail
    refine (texts_w _ _ _ HS.out hlm.out (by rw [hLe.out]; unfold maxLen; omega)).mono ?_
    rw [hW.out]
    rintro e w1 ⟨rfl, m1⟩
    go_wp2_with fail
    refine (alive_any _).mono ?_; rintro e w2 ⟨rfl, m2⟩
    go_wp2
    go_ret
    exact ⟨rfl, m1.ofAlloc.trans m2⟩

set_option maxHeartbeats 2000000 in
theorem walk_one (more : Int) (w : World) :
    Calls Try.prog 4 #[.int .i64 more, .bool false] w fun e w' => e = .returned (.bool true) ∧ Mod (fun _ => False) w w' := by
  obtain ⟨ha1, ha2⟩ := and3 more
  obtain ⟨n, hn⟩ : ∃ n : Nat, 65534 + bits BinOp.and IntKind.i64 more 3 = n := ⟨(65534 + bits BinOp.and IntKind.i64 more 3).toNat, by omega⟩
  have hnb : n ≤ 65537 := by omega
  have hmk := mkB n _ hn (by omega)
  have hz0 := conv_new (P := Try.prog) 31 9 5 n (List.replicate n 0) (by rw [List.length_replicate]) Try.underlying31 Try.underlying5 Try.underlying9
  have hsz : (bs (List.replicate n 0)).size = n := by rw [bs_size, List.length_replicate]
  have hsm : (bs (List.replicate n 0)).size ≤ maxLen := by rw [hsz]; unfold maxLen; omega
  have HN := Lib.hid hn; clear hn
  generalize bs (List.replicate n 0) = s at *
  have HZ := Lib.hid hsz; clear hsz
  by_cases hb : n ≤ 65535
  · have hW : Hid (wText s = (bs (leBytes 2 s.size ++ s.data.toList), 0)) := wText_ok (by rw [HZ.out]; omega)
    have hz : ((bs (leBytes 2 s.size ++ s.data.toList)).size : Int) = 2 + (65534 + bits BinOp.and IntKind.i64 more 3) := by
      have hd : s.data.toList.length = n := by rw [Array.length_toList]; exact HZ.out
      rw [bs_size, List.length_append, leBytes_length, hd, HN.out]; omega
    have hz' : (((bs (leBytes 2 s.size ++ s.data.toList)).size : Int) == 2 + (65534 + bits BinOp.and IntKind.i64 more 3)) = true := by rw [beq_iff_eq]; exact hz
    have hle : decide (65534 + bits BinOp.and IntKind.i64 more 3 ≤ 65535) = true := by rw [decide_eq_true_eq, HN.out]; omega
    clear hz
    go_enter Try.func4, Try.ntmps4
    go_wp2_with fail
    refine (text_w _ _ hsm).mono ?_
    rw [hW.out]
    rintro e w1 ⟨rfl, m1⟩
    generalize bs (leBytes 2 s.size ++ s.data.toList) = t at *
    go_wp2_with fail
    refine (alive_any _).mono ?_; rintro e w2 ⟨rfl, m2⟩
    go_wp2
    go_ret
    exact ⟨rfl, m1.ofAlloc.trans m2⟩
  · have hW : Hid (wText s = (ByteArray.empty, 4)) := wText_long (by rw [HZ.out]; omega)
    have hle : decide (65534 + bits BinOp.and IntKind.i64 more 3 ≤ 65535) = false := by rw [decide_eq_false_iff_not, HN.out]; omega
    go_enter Try.func4, Try.ntmps4
    go_wp2_with fail
    refine (text_w _ _ hsm).mono ?_
    rw [hW.out]
    rintro e w1 ⟨rfl, m1⟩
    go_wp2_with fail
    refine (alive_any _).mono ?_; rintro e w2 ⟨rfl, m2⟩
    go_wp2
    go_ret
    exact ⟨rfl, m1.ofAlloc.trans m2⟩

theorem contract (H : Type) (enc : TypeId × Value → H) (W : World) (base : Nat) (args : Array Value) (ds gs : List (DataW H)) (before : List MemPlace)
    (hval : ∀ (j : Nat) t v, Try.f4.params[j]? = some t → args[j]? = some v → Value.okWide Try.prog W .any base t v)
    (hW : DataW.Whole enc Try.prog Try.f4.params.toList Rows.codeLongSpec.vars false W args.toList ds gs before) :
    Calls Try.prog 4 args W fun e W' => ∃ v, e = .returned v ∧ Rows.codeLongSpec.post enc Try.prog Try.f4 false true false false W args v W' := by
  have hW' := hW
  obtain ⟨p, q, hA0, hV, rfl, hfz, hnd⟩ := hW
  have hA : DataW.TrodAll enc Try.prog W 0 (fun _ => true) true Try.f4.params.toList args.toList ds p := hA0
  rw [Try.params4] at hA hval
  obtain ⟨v0, vs0, d0, ds0, p0, q0, hargs, rfl, rfl, h0, r0⟩ := trodAll_cons hA
  obtain ⟨v1, vs1, d1, ds1, p1, q1, rfl, rfl, rfl, h1, r1⟩ := trodAll_cons r0
  obtain ⟨rfl, rfl, rfl⟩ := trodAll_nil r1
  obtain rfl : args = #[v0, v1] := by cases args; simp_all
  obtain ⟨n, rfl, rfl, rfl, hn⟩ := open_int Try.underlying3 (hval 0 3 v0 rfl rfl) h0
  obtain ⟨b, rfl, rfl, rfl⟩ := open_bool Try.underlying4 (hval 1 4 v1 rfl rfl) h1
  clear hA0
  have hw : Calls Try.prog 4 #[.int .i64 n, .bool b] W fun e w' => e = .returned (.bool true) ∧ Mod (fun _ => False) W w' := by
    cases b
    · exact walk_one n W
    · exact walk_many n W
  refine hw.mono fun e W' ⟨he, hg⟩ => ?_
  subst he
  exact ⟨_, rfl, law_post hW' hg (by kernel_rfl) rfl rfl rfl rfl rfl⟩

set_option maxRecDepth 100000 in
theorem lifted (os : Os) (started : os.Started) (H : Type) (enc : TypeId × Value → H) :
    ReturnsInHanded {} Try.checked os 4 .any (Rows.codeLongSpec.pre6 enc Try.prog Try.f4 Rows.codeLongRow.domain false) (Rows.codeLongSpec.post enc Try.prog Try.f4 false true false false) := by
  refine returnsInHanded_of_change (C := Try.checked) own_knob started (by kernel_rfl) Try.func4
    (ChangeSpec.witness6 (enc := enc) (C := Try.checked) false ⟨#[], #[.int .i64 0, .bool false], []⟩ 8 (by kernel_rfl) (by kernel_rfl) (by kernel_rfl) (by kernel_rfl)) ?_
  intro W base args ds gs before hval hW _ _
  exact contract H enc W base args ds gs before hval hW

theorem proved : Rows.CodeLongSaid :=
  OpenClaim.holds_of_wide 4 Try.f4 rfl rfl rfl rfl rfl rfl rfl ⟨rfl, rfl, rfl, rfl, rfl⟩ rfl rfl rfl rfl rfl (by kernel_rfl) Try.func4 (by kernel_rfl)
    (of_decide_eq_true (by kernel_rfl)) (by unfold Func.isWrapper; first | (rw [if_pos (by decide +kernel)]; kernel_rfl) | (rw [if_neg (by decide +kernel)]; exact ⟨rfl, rfl⟩))
    (fun os started H enc _ => lifted os started H enc)
end Go.Proofs.Ythibakgnddmlfaa.codeLong
