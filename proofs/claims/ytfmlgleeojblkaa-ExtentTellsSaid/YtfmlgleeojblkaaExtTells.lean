/-
  PROVED HERE: for every int n, every extent x and every string s the law ExtentTells returns true: classes, rooms, which extents may be, and their bytes, are what the document says. No conditions.
-/
import Derived.Test.YtfmlgleeojblkaaLawExt
import Derived.Test.YtfmlgleeojblkaaExtAlive
import Derived.Test.YtfmlgleeojblkaaExtCode
namespace Go.Proofs.Ytfmlgleeojblkaa.extentTells
open Go.ChangeShapes Go.WideShapes Go.ChangeAt Go.RowKit
open Go.ChangeMaps (open_string)

theorem rclass_any (x : Int) (w : World) : Calls Try.prog 23 #[.int .i64 x] w fun e w' => e = .returned (.tuple #[.int .i64 (classR x).1, .int .i64 (classR x).2]) ∧ w' = w := by
  by_cases h1 : x < 0
  · have t1 : decide (x < 0) = true := by simp [h1]
    rw [show classR x = (0, 2) from if_pos h1]
    go_enter Try.func23, Try.ntmps23
    go_wp2
    go_ret2
    exact ⟨rfl, rfl⟩
  have t1 : decide (x < 0) = false := by simp; omega
  by_cases h2 : 7168 < x
  · have t2 : decide (7168 < x) = true := by simp [h2]
    rw [show classR x = (0, 4) from by unfold classR; rw [if_neg h1, if_pos h2]]
    go_enter Try.func23, Try.ntmps23
    go_wp2
    go_ret2
    exact ⟨rfl, rfl⟩
  have t2 : decide (7168 < x) = false := by simp; omega
  rw [show classR x = (cls x, 0) from by unfold classR; rw [if_neg h1, if_neg h2]]
  go_enter Try.func23, Try.ntmps23
  go_wp2
  go_loop [4] (fun i => ∃ j : Nat, j ≤ 5 ∧ i = .int .i64 ((j : Int) - 1) ∧ (j : Int) ≤ cls x + 1) (fun i => (5 - intOf i).toNat)
  case atStart => exact ⟨0, Nat.zero_le _, rfl, by have := cls_le x; omega⟩
  case round =>
    obtain ⟨j, hj, rfl, hc⟩ := hrel
    have hst := cls_step x j (by omega) hj hc
    have hnb := nblk_le ((j : Int) - 1)
    have hrm := fun W => rroom_any ((j : Int) - 1) W
    generalize nblk ((j : Int) - 1) = nb at *
    obtain ⟨R, hR⟩ : ∃ R, 448 * nb = R := ⟨_, rfl⟩
    rw [hR] at hst hrm
    rcases hst with ⟨h3, h4, h5⟩ | ⟨h3, h4⟩
    · have t3 : decide ((R : Int) < x) = true := by simp [h3]
      go_wp2_with fail
      refine (hrm _).mono ?_
      rintro e w1 ⟨rfl, rfl⟩
      go_wp2
      go_round
      case rel => exact ⟨j + 1, h5, by congr 1; simp, h4⟩
      case measure => simp [intOf]; omega
    · have t3 : decide ((R : Int) < x) = false := by simp; omega
      go_wp2_with fail
      refine (hrm _).mono ?_
      rintro e w1 ⟨rfl, rfl⟩
      go_wp2
      go_ret2
      exact ⟨by rw [h4]; rfl, rfl⟩

theorem encR_size (X c : Int) : (encR X c).1.size ≤ 5 := by
  unfold encR
  split
  · show (leBytes 1 _ ++ leBytes 4 _).length ≤ 5
    rw [List.length_append, leBytes_length, leBytes_length]; exact Nat.le_refl _
  · decide

set_option maxRecDepth 100000 in
set_option maxHeartbeats 4000000 in
theorem walk (n X c : Int) (s : ByteArray) (w : World) (hX : -9223372036854775808 ≤ X ∧ X ≤ 9223372036854775807) (hc : -9223372036854775808 ≤ c ∧ c ≤ 9223372036854775807) (hs : s.size ≤ maxLen) :
    Calls Try.prog 6 #[.int .i64 n, .agg #[.int .i64 X, .int .i64 c], .string s] w fun e w' => e = .returned (.bool true) ∧ Mod (fun _ => False) w w' := by
  obtain ⟨W, hW⟩ : ∃ W, w.alloc (.cells #[.int .i64 X, .int .i64 c] 23) = W := ⟨_, rfl⟩
  have hb : W.heap[w.heap.size]? = some (.cells #[.int .i64 X, .int .i64 c] 23 (0, 0)) := by subst hW; exact new_at _ _
  have hm : Mod (fun _ => False) w W := by subst hW; exact (Mod.refl _ w).alloc _
  have hs' := hs
  unfold maxLen at hs'
  go_enter Try.func6, Try.ntmps6
  by_cases h1 : 4096 < s.size
  · have t1 : decide (4096 < (s.size : Int)) = true := by simp; omega
    go_wp2_with fail
    refine (alive_any _).mono ?_
    rintro e w9 ⟨rfl, m9⟩
    go_wp2
    go_ret
    exact ⟨rfl, hm.trans m9⟩
  have t1 : decide (4096 < (s.size : Int)) = false := by simp; omega
  have hroom := fun W => room_any n W
  have hrroom := fun W => rroom_any n W
  have hmay := fun W => may_any X c W hX hc
  have hrmay := fun W => rmay_any X c W
  have hcl := fun W => class_any n W
  have hrcl := fun W => rclass_any n W
  obtain ⟨R, hR⟩ : ∃ R, 448 * nblk n = R := ⟨_, rfl⟩
  rw [hR] at hroom hrroom
  obtain ⟨mb, hmb⟩ : ∃ mb, mayB X c = mb := ⟨_, rfl⟩
  rw [hmb] at hmay hrmay
  obtain ⟨kc, hkc⟩ : ∃ kc, classR n = kc := ⟨_, rfl⟩
  rw [hkc] at hcl hrcl
  obtain ⟨kc1, kc2⟩ := kc
  simp only at hcl hrcl
  clear hkc
  go_wp2_with fail
  refine (hcl _).mono ?_
  rintro e w1 ⟨rfl, rfl⟩
  go_wp2_with fail
  refine (hrcl _).mono ?_
  rintro e w2 ⟨rfl, rfl⟩
  have t2 : (kc1 != kc1) = false := by simp
  have t3 : (kc2 != kc2) = false := by simp
  have hS0 : w2.drew.cell? ⟨w.heap.size, 0, none⟩ = some (.int .i64 X) ∧ w2.drew.cell? ⟨w.heap.size, 1, none⟩ = some (.int .i64 c) := ⟨(cell_of (w := w2.drew) hb 0).trans rfl, (cell_of (w := w2.drew) hb 1).trans rfl⟩
  have hSk : ∀ (U V : World), (U.cell? ⟨w.heap.size, 0, none⟩ = some (.int .i64 X) ∧ U.cell? ⟨w.heap.size, 1, none⟩ = some (.int .i64 c)) → Mod (fun _ => False) U V → (V.cell? ⟨w.heap.size, 0, none⟩ = some (.int .i64 X) ∧ V.cell? ⟨w.heap.size, 1, none⟩ = some (.int .i64 c)) := by
    rintro U V ⟨h1, h2⟩ hm
    exact ⟨(World.cell?_of_block (a := ⟨w.heap.size, 0, none⟩) (hm.block _ (World.block_lt_of_cell? _ _ h1) (fun x => x))).trans h1, (World.cell?_of_block (a := ⟨w.heap.size, 1, none⟩) (hm.block _ (World.block_lt_of_cell? _ _ h2) (fun x => x))).trans h2⟩
  have Mc : Hid (Mod (fun _ => False) w w2.drew) := hm.drew
  have Hc : Hid (w2.drew.heap[w.heap.size]? = some (.cells #[.int .i64 X, .int .i64 c] 23 (0, 0))) := hb
  clear hb hm hW
  go_wp2
  go_region_held3 (fun w' => w'.cell? ⟨w.heap.size, 0, none⟩ = some (.int .i64 X) ∧ w'.cell? ⟨w.heap.size, 1, none⟩ = some (.int .i64 c)) (first | assumption | exact hSk _ _ (by assumption) m5) (first
    | (go_at_call 12; refine (hroom _).mono ?_; rintro e w5 ⟨rfl, rfl⟩)
    | (go_at_call 19; refine (hrroom _).mono ?_; rintro e w5 ⟨rfl, rfl⟩)
    | (go_at_call 13; refine (hmay _).mono ?_; rintro e w5 ⟨rfl, m5⟩; have Hc := Lib.hid ((m5.block _ (lt_of Hc.out) (fun x => x)).trans Hc.out); have Mc := Lib.hid (Mc.out.trans m5))
    | (go_at_call 24; refine (hrmay _).mono ?_; rintro e w5 ⟨rfl, m5⟩; have Hc := Lib.hid ((m5.block _ (lt_of Hc.out) (fun x => x)).trans Hc.out); have Mc := Lib.hid (Mc.out.trans m5)))
  clear hSk hS0 hroom hrroom hmay hrmay hcl hrcl
  have henc := fun W => enc_any X c W hX hc
  have hrenc := fun W => renc_any X c W hX hc
  have hdec := fun W => dec_any s W hs
  have hrdec := fun W => rdec_any s W hs
  have hea := encR_size X c
  have hde := fun h => dec_enc (X := X) (c := c) h
  have hev : (encR X c).2 = if mayB X c = true then 0 else 2 := by unfold encR; split <;> rfl
  rw [hmb] at hev hde
  generalize encR X c = EA at *
  obtain ⟨a, ev⟩ := EA
  simp only at henc hrenc hea hde hev
  have HEV := Lib.hid hev
  have HDE := Lib.hid hde
  clear hev hde
  generalize decR s = DR at *
  obtain ⟨⟨yx, yc⟩, ye⟩ := DR
  simp only at hdec hrdec
  have x0 : w5.cell? ⟨w.heap.size, 0, none⟩ = some (.int .i64 X) := (cell_of Hc.out 0).trans rfl
  have x1 : w5.cell? ⟨w.heap.size, 1, none⟩ = some (.int .i64 c) := (cell_of Hc.out 1).trans rfl
  go_wp2_with fail
  refine (henc _).mono ?_
  rintro e w6 ⟨rfl, m6⟩
  clear x0 x1
  have H6 := Lib.hid ((m6.block _ (lt_of Hc.out) (fun x => x)).trans Hc.out)
  have M6 := Lib.hid (Mc.out.trans m6)
  have x0 : w6.cell? ⟨w.heap.size, 0, none⟩ = some (.int .i64 X) := (cell_of H6.out 0).trans rfl
  have x1 : w6.cell? ⟨w.heap.size, 1, none⟩ = some (.int .i64 c) := (cell_of H6.out 1).trans rfl
  go_wp2_with fail
  refine (hrenc _).mono ?_
  rintro e w7 ⟨rfl, m7⟩
  clear x0 x1
  have H7 := Lib.hid ((m7.block _ (lt_of H6.out) (fun x => x)).trans H6.out)
  have M7 := Lib.hid (M6.out.trans m7)
  go_wp2_with fail
  refine (hdec _).mono ?_
  rintro e w8 ⟨rfl, m8⟩
  have H8 := Lib.hid ((m8.block _ (lt_of H7.out) (fun x => x)).trans H7.out)
  have M8 := Lib.hid (M7.out.trans m8)
  clear m5 m6 m7 m8 Hc Mc H6 M6 H7 M7 henc hrenc
  obtain ⟨W9, hW9⟩ : ∃ W9, w8.alloc (.cells #[.int .i64 yx, .int .i64 yc] 23) = W9 := ⟨_, rfl⟩
  have m9 : Mod (fun _ => False) w8 W9 := by subst hW9; exact (Mod.refl _ _).alloc _
  have HY9 : Hid (W9.heap[w8.heap.size]? = some (.cells #[.int .i64 yx, .int .i64 yc] 23 (0, 0))) := by subst hW9; exact new_at _ _
  have H9 := Lib.hid ((m9.block _ (lt_of H8.out) (fun x => x)).trans H8.out)
  have M9 := Lib.hid (M8.out.trans m9)
  go_wp2_with fail
  refine (hrdec _).mono ?_
  rintro e w10 ⟨rfl, m10⟩
  obtain ⟨W11, hW11⟩ : ∃ W11, w10.alloc (.cells #[.int .i64 yx, .int .i64 yc] 23) = W11 := ⟨_, rfl⟩
  have m11 : Mod (fun _ => False) w10 W11 := by subst hW11; exact (Mod.refl _ _).alloc _
  have HZ11 : Hid (W11.heap[w10.heap.size]? = some (.cells #[.int .i64 yx, .int .i64 yc] 23 (0, 0))) := by subst hW11; exact new_at _ _
  have HY11 := Lib.hid (((m10.trans m11).block _ (lt_of HY9.out) (fun x => x)).trans HY9.out)
  have H11 := Lib.hid (((m10.trans m11).block _ (lt_of H9.out) (fun x => x)).trans H9.out)
  have M11 := Lib.hid (M9.out.trans (m10.trans m11))
  have y0 : W11.cell? ⟨w8.heap.size, 0, none⟩ = some (.int .i64 yx) := (cell_of HY11.out 0).trans rfl
  have y1 : W11.cell? ⟨w8.heap.size, 1, none⟩ = some (.int .i64 yc) := (cell_of HY11.out 1).trans rfl
  have z0 : W11.cell? ⟨w10.heap.size, 0, none⟩ = some (.int .i64 yx) := (cell_of HZ11.out 0).trans rfl
  have z1 : W11.cell? ⟨w10.heap.size, 1, none⟩ = some (.int .i64 yc) := (cell_of HZ11.out 1).trans rfl
  clear m9 m10 m11 H8 M8 HY9 H9 M9 hdec hrdec
  cases mb with
  | false =>
    obtain rfl : ev = 2 := by rw [HEV.out]; rfl
    clear HEV HDE
    go_wp2_with fail
    refine (alive_any _).mono ?_
    rintro e w12 ⟨rfl, m12⟩
    go_wp2
    go_ret
    exact ⟨rfl, M11.out.trans m12⟩
  | true =>
    obtain rfl : ev = 0 := by rw [HEV.out]; rfl
    have hd2 := fun W => dec_any a W (Nat.le_trans hea (by unfold maxLen; decide))
    rw [HDE.out rfl] at hd2
    clear HEV HDE
    go_wp2_with fail
    refine (hd2 _).mono ?_
    rintro e w12 ⟨rfl, m12⟩
    have H12 := Lib.hid ((m12.block _ (lt_of H11.out) (fun x => x)).trans H11.out)
    have M12 := Lib.hid (M11.out.trans m12)
    obtain ⟨W13, hW13⟩ : ∃ W13, w12.alloc (.cells #[.int .i64 X, .int .i64 c] 23) = W13 := ⟨_, rfl⟩
    have m13 : Mod (fun _ => False) w12 W13 := by subst hW13; exact (Mod.refl _ _).alloc _
    have HP13 : Hid (W13.heap[w12.heap.size]? = some (.cells #[.int .i64 X, .int .i64 c] 23 (0, 0))) := by subst hW13; exact new_at _ _
    have H13 := Lib.hid ((m13.block _ (lt_of H12.out) (fun x => x)).trans H12.out)
    have M13 := Lib.hid (M12.out.trans m13)
    have p0 : W13.cell? ⟨w12.heap.size, 0, none⟩ = some (.int .i64 X) := (cell_of HP13.out 0).trans rfl
    have p1 : W13.cell? ⟨w12.heap.size, 1, none⟩ = some (.int .i64 c) := (cell_of HP13.out 1).trans rfl
    have x0 : W13.cell? ⟨w.heap.size, 0, none⟩ = some (.int .i64 X) := (cell_of H13.out 0).trans rfl
    have x1 : W13.cell? ⟨w.heap.size, 1, none⟩ = some (.int .i64 c) := (cell_of H13.out 1).trans rfl
    clear y0 y1 z0 z1
    go_wp2_with fail
    refine (alive_any _).mono ?_
    rintro e w14 ⟨rfl, m14⟩
    go_wp2
    go_ret
    exact ⟨rfl, M13.out.trans m14⟩

set_option maxRecDepth 100000 in
theorem contract (H : Type) (enc : TypeId × Value → H) (W : World) (base : Nat) (args : Array Value) (ds gs : List (DataW H)) (before : List MemPlace)
    (hval : ∀ (j : Nat) t v, Try.f6.params[j]? = some t → args[j]? = some v → Value.okWide Try.prog W .any base t v)
    (hW : DataW.Whole enc Try.prog Try.f6.params.toList Rows.extentTellsSpec.vars false W args.toList ds gs before) :
    Calls Try.prog 6 args W fun e W' => ∃ v, e = .returned v ∧ Rows.extentTellsSpec.post enc Try.prog Try.f6 false true false false W args v W' := by
  have hW' := hW
  obtain ⟨p, q, hA0, hV, rfl, hfz, hnd⟩ := hW
  have hA : DataW.TrodAll enc Try.prog W 0 (fun _ => true) true Try.f6.params.toList args.toList ds p := hA0
  rw [Try.params6] at hA hval
  obtain ⟨v0, vs0, d0, ds0, p0, q0, hargs, rfl, rfl, h0, r0⟩ := trodAll_cons hA
  obtain ⟨v1, vs1, d1, ds1, p1, q1, rfl, rfl, rfl, h1, r1⟩ := trodAll_cons r0
  obtain ⟨v2, vs2, d2, ds2, p2, q2, rfl, rfl, rfl, h2, r2⟩ := trodAll_cons r1
  obtain ⟨rfl, rfl, rfl⟩ := trodAll_nil r2
  obtain rfl : args = #[v0, v1, v2] := by cases args; simp_all
  obtain ⟨n, rfl, _, _, hmax1⟩ := open_int Try.underlying3 (hval 0 3 v0 rfl rfl) h0
  obtain ⟨X, c, rfl, hX, hc⟩ := arg_ext (hval 1 23 v1 rfl rfl) h1
  obtain ⟨s, rfl, _, _, hmax⟩ := open_string Try.underlying9 (hval 2 9 v2 rfl rfl) h2
  clear hA0
  refine (walk n X c s W hX hc hmax).mono fun e W' ⟨he, hg⟩ => ?_
  subst he
  exact ⟨_, rfl, law_post hW' hg (by kernel_rfl) rfl rfl rfl rfl rfl⟩

set_option maxRecDepth 100000 in
theorem lifted (os : Os) (started : os.Started) (H : Type) (enc : TypeId × Value → H) :
    ReturnsInHanded {} Try.checked os 6 .any (Rows.extentTellsSpec.pre6 enc Try.prog Try.f6 Rows.extentTellsRow.domain false) (Rows.extentTellsSpec.post enc Try.prog Try.f6 false true false false) := by
  refine returnsInHanded_of_change (C := Try.checked) own_knob started (by kernel_rfl) Try.func6
    (ChangeSpec.witness6 (enc := enc) (C := Try.checked) false ⟨#[], #[.int .i64 0, .agg #[.int .i64 0, .int .i64 0], .string .empty], []⟩ 8 (by kernel_rfl) (by kernel_rfl) (by kernel_rfl) (by kernel_rfl)) ?_
  intro W base args ds gs before hval hW _ _
  exact contract H enc W base args ds gs before hval hW

theorem proved : Rows.ExtentTellsSaid :=
  OpenClaim.holds_of_wide 6 Try.f6 rfl rfl rfl rfl rfl rfl rfl ⟨rfl, rfl, rfl, rfl, rfl⟩ rfl rfl rfl rfl rfl (by kernel_rfl) Try.func6 (by kernel_rfl)
    (of_decide_eq_true (by kernel_rfl)) (by unfold Func.isWrapper; first | (rw [if_pos (by decide +kernel)]; kernel_rfl) | (rw [if_neg (by decide +kernel)]; exact ⟨rfl, rfl⟩))
    (fun os started H enc _ => lifted os started H enc)
end Go.Proofs.Ytfmlgleeojblkaa.extentTells
