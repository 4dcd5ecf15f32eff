/- The statement StatReads. -/
import Derived.Test.YtjhhknmdnkkknaaLawKit
import Derived.Test.YtjhhknmdnkkknaaWorks
import Derived.Test.YtjhhknmdnkkknaaStatRAll
import Derived.Test.YtjhhknmdnkkknaaStatAll
namespace Go.Proofs.Ytjhhknmdnkkknaa.statReads
open Go.ChangeShapes Go.WideShapes Go.ChangeAt Go.RowKit
open Go.ChangeMaps (open_string)
open Go.Proofs.Ytjhhknmdnkkknaa

theorem cells13 {V : World} {b : Nat} {T : TypeId} {c0 c1 c2 c3 c4 c5 c6 c7 c8 c9 c10 c11 c12 : Value} (h : V.heap[b]? = some (.cells #[c0, c1, c2, c3, c4, c5, c6, c7, c8, c9, c10, c11, c12] T (0, 0))) : V.cell? ⟨b, 0, none⟩ = some c0 ∧ V.cell? ⟨b, 1, none⟩ = some c1 ∧ V.cell? ⟨b, 2, none⟩ = some c2 ∧ V.cell? ⟨b, 3, none⟩ = some c3 ∧ V.cell? ⟨b, 4, none⟩ = some c4 ∧ V.cell? ⟨b, 5, none⟩ = some c5 ∧ V.cell? ⟨b, 6, none⟩ = some c6 ∧ V.cell? ⟨b, 7, none⟩ = some c7 ∧ V.cell? ⟨b, 8, none⟩ = some c8 ∧ V.cell? ⟨b, 9, none⟩ = some c9 ∧ V.cell? ⟨b, 10, none⟩ = some c10 ∧ V.cell? ⟨b, 11, none⟩ = some c11 ∧ V.cell? ⟨b, 12, none⟩ = some c12 := ⟨(cell_of h 0).trans rfl, (cell_of h 1).trans rfl, (cell_of h 2).trans rfl, (cell_of h 3).trans rfl, (cell_of h 4).trans rfl, (cell_of h 5).trans rfl, (cell_of h 6).trans rfl, (cell_of h 7).trans rfl, (cell_of h 8).trans rfl, (cell_of h 9).trans rfl, (cell_of h 10).trans rfl, (cell_of h 11).trans rfl, (cell_of h 12).trans rfl⟩
set_option maxRecDepth 100000 in
set_option maxHeartbeats 4000000 in
theorem walk (b : ByteArray) (w : World) :
    Calls Try.prog 6 #[.string b] w fun e w' => e = .returned (.bool true) ∧ Mod (fun _ => False) w w' := by
  go_enter Try.func6, Try.ntmps6
  by_cases hbig : 131072 < b.size
  · have t1 : decide (131072 < (b.size : Int)) = true := by simp; omega
    go_wp2_with fail
    refine (works_any _).mono ?_
    rintro e w4 ⟨rfl, m4⟩
    go_wp2
    go_ret
    exact ⟨rfl, m4⟩
  have t1 : decide (131072 < (b.size : Int)) = false := by simp; omega
  have hN := fun U => next_any b U (by unfold maxLen; omega)
  have hRN := fun U => rnext_any b U (by omega)
  have hD := fun U => dec_any b U (by unfold maxLen; omega)
  have hRD := fun U => rdec_any b U (by omega)
  have hA := fun U => all_any b U (by omega)
  have hRA := fun U => rall_any b U (by omega)
  have hAl : (allR b).1.length ≤ 140737488355328 := by have := allR_len b; omega
  generalize nextS b = X at *
  generalize decS b = Y at *
  generalize allR b = Z at *
  obtain ⟨xs, xn_, xe⟩ := X
  obtain ⟨ys, ye⟩ := Y
  obtain ⟨zs, ze⟩ := Z
  simp only at hN hRN hD hRD hA hRA hAl
  unfold St.v St.cells at hN hRN hD hRD
  have hq1 := eql_any xs xs
  have hq2 := eql_any ys ys
  rw [(eqS_iff xs xs).2 rfl] at hq1
  rw [(eqS_iff ys ys).2 rfl] at hq2
  unfold St.v St.cells at hq1 hq2
  go_wp2_with fail
  refine (hN _).mono ?_
  rintro e w1 ⟨rfl, m1⟩
  have HM1 := Lib.hid m1
  obtain ⟨V1, hV1⟩ : ∃ V1, (w1).alloc (.cells (xs).cells.toArray 28) = V1 := ⟨_, rfl⟩
  have B1 : Hid ((V1).heap[(w1).heap.size]? = some (.cells (xs).cells.toArray 28 (0, 0))) := by subst hV1; exact new_at _ _
  have nm : Mod (fun _ => False) w1 V1 := by subst hV1; exact (Mod.refl _ _).alloc _
  have HN1 := Lib.hid ((HM1).out.trans nm)
  unfold St.cells at hV1
  clear m1 nm hN
  go_wp2_with fail
  refine (hRN _).mono ?_
  rintro e w2 ⟨rfl, m2⟩
  have HM2 := Lib.hid (HN1.out.trans m2)
  have B1 := Lib.hid ((m2.block _ (lt_of (B1).out) (fun x => x)).trans (B1).out)
  obtain ⟨V2, hV2⟩ : ∃ V2, (w2).alloc (.cells (xs).cells.toArray 28) = V2 := ⟨_, rfl⟩
  have B2 : Hid ((V2).heap[(w2).heap.size]? = some (.cells (xs).cells.toArray 28 (0, 0))) := by subst hV2; exact new_at _ _
  have nm : Mod (fun _ => False) w2 V2 := by subst hV2; exact (Mod.refl _ _).alloc _
  have HN2 := Lib.hid ((HM2).out.trans nm)
  unfold St.cells at hV2
  have B1 := Lib.hid ((nm.block _ (lt_of (B1).out) (fun x => x)).trans (B1).out)
  clear m2 nm hRN
  go_wp2_with fail
  refine (hD _).mono ?_
  rintro e w3 ⟨rfl, m3⟩
  have HM3 := Lib.hid (HN2.out.trans m3)
  have B1 := Lib.hid ((m3.block _ (lt_of (B1).out) (fun x => x)).trans (B1).out)
  have B2 := Lib.hid ((m3.block _ (lt_of (B2).out) (fun x => x)).trans (B2).out)
  obtain ⟨V3, hV3⟩ : ∃ V3, (w3).alloc (.cells (ys).cells.toArray 28) = V3 := ⟨_, rfl⟩
  have B3 : Hid ((V3).heap[(w3).heap.size]? = some (.cells (ys).cells.toArray 28 (0, 0))) := by subst hV3; exact new_at _ _
  have nm : Mod (fun _ => False) w3 V3 := by subst hV3; exact (Mod.refl _ _).alloc _
  have HN3 := Lib.hid ((HM3).out.trans nm)
  unfold St.cells at hV3
  have B1 := Lib.hid ((nm.block _ (lt_of (B1).out) (fun x => x)).trans (B1).out)
  have B2 := Lib.hid ((nm.block _ (lt_of (B2).out) (fun x => x)).trans (B2).out)
  clear m3 nm hD
  go_wp2_with fail
  refine (hRD _).mono ?_
  rintro e w4 ⟨rfl, m4⟩
  have HM4 := Lib.hid (HN3.out.trans m4)
  have B1 := Lib.hid ((m4.block _ (lt_of (B1).out) (fun x => x)).trans (B1).out)
  have B2 := Lib.hid ((m4.block _ (lt_of (B2).out) (fun x => x)).trans (B2).out)
  have B3 := Lib.hid ((m4.block _ (lt_of (B3).out) (fun x => x)).trans (B3).out)
  obtain ⟨V4, hV4⟩ : ∃ V4, (w4).alloc (.cells (ys).cells.toArray 28) = V4 := ⟨_, rfl⟩
  have B4 : Hid ((V4).heap[(w4).heap.size]? = some (.cells (ys).cells.toArray 28 (0, 0))) := by subst hV4; exact new_at _ _
  have nm : Mod (fun _ => False) w4 V4 := by subst hV4; exact (Mod.refl _ _).alloc _
  have HN4 := Lib.hid ((HM4).out.trans nm)
  unfold St.cells at hV4
  have B1 := Lib.hid ((nm.block _ (lt_of (B1).out) (fun x => x)).trans (B1).out)
  have B2 := Lib.hid ((nm.block _ (lt_of (B2).out) (fun x => x)).trans (B2).out)
  have B3 := Lib.hid ((nm.block _ (lt_of (B3).out) (fun x => x)).trans (B3).out)
  clear m4 nm hRD
  go_wp2_with fail
  refine (hA _).mono ?_
  rintro e w5 ⟨va, rfl, hoa, m5⟩
  have HM5 := Lib.hid (HN4.out.trans m5)
  have B1 := Lib.hid ((m5.block _ (lt_of (B1).out) (fun x => x)).trans (B1).out)
  have B2 := Lib.hid ((m5.block _ (lt_of (B2).out) (fun x => x)).trans (B2).out)
  have B3 := Lib.hid ((m5.block _ (lt_of (B3).out) (fun x => x)).trans (B3).out)
  have B4 := Lib.hid ((m5.block _ (lt_of (B4).out) (fun x => x)).trans (B4).out)
  have hsa := (hoa.sts).imp (Q := fun _ => True) (fun _ _ => trivial)
  clear hoa hA
  go_wp2_with fail
  refine (hRA _).mono ?_
  rintro e w6 ⟨vb, rfl, hob, m6⟩
  have HM6 := Lib.hid (HM5.out.trans m6)
  have B1 := Lib.hid ((m6.block _ (lt_of (B1).out) (fun x => x)).trans (B1).out)
  have B2 := Lib.hid ((m6.block _ (lt_of (B2).out) (fun x => x)).trans (B2).out)
  have B3 := Lib.hid ((m6.block _ (lt_of (B3).out) (fun x => x)).trans (B3).out)
  have B4 := Lib.hid ((m6.block _ (lt_of (B4).out) (fun x => x)).trans (B4).out)
  have hsb := (hob.sts).imp (Q := fun _ => True) (fun _ _ => trivial)
  have hsa6 := hsa.mod m6 (fun _ _ _ x => x)
  have hS := same_any va vb zs w6 hsa6 hsb hAl
  clear hob hRA hsa hsa6 hsb m5 m6
  have p1 := B1.out
  have p2 := B2.out
  have p3 := B3.out
  have p4 := B4.out
  unfold St.cells at p1 p2 p3 p4
  obtain ⟨a0, a1, a2, a3, a4, a5, a6, a7, a8, a9, a10, a11, a12⟩ := cells13 p1
  obtain ⟨b0, b1, b2, b3, b4, b5, b6, b7, b8, b9, b10, b11, b12⟩ := cells13 p2
  obtain ⟨c0, c1, c2, c3, c4, c5, c6, c7, c8, c9, c10, c11, c12⟩ := cells13 p3
  obtain ⟨d0, d1, d2, d3, d4, d5, d6, d7, d8, d9, d10, d11, d12⟩ := cells13 p4
  clear p1 p2 p3 p4 hV1 hV2 hV3 hV4
  go_wp2_with fail
  refine hS.mono ?_
  rintro e w7 ⟨rfl, m7⟩
  go_wp2_with fail
  refine (works_any _).mono ?_
  rintro e w8 ⟨rfl, m8⟩
  go_wp2
  go_ret
  exact ⟨rfl, (HM6.out.trans m7).trans m8⟩

set_option maxRecDepth 100000 in
theorem contract (H : Type) (enc : TypeId × Value → H) (W : World) (base : Nat) (args : Array Value) (ds gs : List (DataW H)) (before : List MemPlace)
    (hval : ∀ (j : Nat) t v, Try.f6.params[j]? = some t → args[j]? = some v → Value.okWide Try.prog W .any base t v)
    (hW : DataW.Whole enc Try.prog Try.f6.params.toList Rows.statReadsSpec.vars false W args.toList ds gs before) :
    Calls Try.prog 6 args W fun e W' => ∃ v, e = .returned v ∧ Rows.statReadsSpec.post enc Try.prog Try.f6 false true false false W args v W' := by
  have hW' := hW
  obtain ⟨p, q, hA0, hV, rfl, hfz, hnd⟩ := hW
  have hA : DataW.TrodAll enc Try.prog W 0 (fun _ => true) true Try.f6.params.toList args.toList ds p := hA0
  rw [Try.params6] at hA hval
  obtain ⟨v0, vs0, d0, ds0, p0, q0, hargs, rfl, rfl, h0, r0⟩ := trodAll_cons hA
  obtain ⟨rfl, rfl, rfl⟩ := trodAll_nil r0
  obtain rfl : args = #[v0] := by cases args; simp_all
  obtain ⟨b, rfl, rfl, rfl, hb⟩ := open_string Try.underlying9 (hval 0 9 v0 rfl rfl) h0
  clear hA0
  refine (walk b W).mono fun e W' ⟨he, hg⟩ => ?_
  subst he
  exact ⟨_, rfl, law_post hW' hg (by kernel_rfl) rfl rfl rfl rfl rfl⟩

set_option maxRecDepth 100000 in
theorem lifted (os : Os) (started : os.Started) (H : Type) (enc : TypeId × Value → H) :
    ReturnsInHanded {} Try.checked os 6 .any (Rows.statReadsSpec.pre6 enc Try.prog Try.f6 Rows.statReadsRow.domain false) (Rows.statReadsSpec.post enc Try.prog Try.f6 false true false false) := by
  refine returnsInHanded_of_change (C := Try.checked) own_knob started (by kernel_rfl) Try.func6
    (ChangeSpec.witness6 (enc := enc) (C := Try.checked) false ⟨#[], #[.string .empty], []⟩ 8 (by kernel_rfl) (by kernel_rfl) (by kernel_rfl) (by kernel_rfl)) ?_
  intro W base args ds gs before hval hW _ _
  exact contract H enc W base args ds gs before hval hW

theorem proved : Rows.StatReadsSaid :=
  OpenClaim.holds_of_wide 6 Try.f6 rfl rfl rfl rfl rfl rfl rfl ⟨rfl, rfl, rfl, rfl, rfl⟩ rfl rfl rfl rfl rfl (by kernel_rfl) Try.func6 (by kernel_rfl)
    (of_decide_eq_true (by kernel_rfl)) (by unfold Func.isWrapper; first | (rw [if_pos (by decide +kernel)]; kernel_rfl) | (rw [if_neg (by decide +kernel)]; exact ⟨rfl, rfl⟩))
    (fun os started H enc _ => lifted os started H enc)
end Go.Proofs.Ytjhhknmdnkkknaa.statReads
