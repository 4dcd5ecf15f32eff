/- The statement StatWrites. -/
import Derived.Test.YtjhhknmdnkkknaaLawStat
import Derived.Test.YtjhhknmdnkkknaaWorks
import Derived.Test.YtjhhknmdnkkknaaStatREnc
namespace Go.Proofs.Ytjhhknmdnkkknaa.statWrites
open Go.ChangeShapes Go.WideShapes Go.ChangeAt Go.RowKit
open Go.Proofs.Ytjhhknmdnkkknaa

set_option maxRecDepth 100000 in
set_option maxHeartbeats 4000000 in
theorem walk (s : St) (w : World) (hk : s.Ok) (h1 : s.n.size ≤ 140737488355328) (h2 : s.u.size ≤ 140737488355328) (h3 : s.g.size ≤ 140737488355328) (h4 : s.m.size ≤ 140737488355328) :
    Calls Try.prog 3 #[s.v] w fun e w' => e = .returned (.bool true) ∧ Mod (fun _ => False) w w' := by
  obtain ⟨W, hW⟩ : ∃ W, w.alloc (.cells s.cells.toArray 28) = W := ⟨_, rfl⟩
  have hb : W.heap[w.heap.size]? = some (.cells s.cells.toArray 28 (0, 0)) := by subst hW; exact new_at _ _
  have hm : Mod (fun _ => False) w W := by subst hW; exact (Mod.refl _ w).alloc _
  obtain ⟨W2, hW2⟩ : ∃ W2, W.alloc (.cells s.cells.toArray 28) = W2 := ⟨_, rfl⟩
  have hb2 : W2.heap[W.heap.size]? = some (.cells s.cells.toArray 28 (0, 0)) := by subst hW2; exact new_at _ _
  have hm2 : Mod (fun _ => False) W W2 := by subst hW2; exact (Mod.refl _ _).alloc _
  have HX := Lib.hid ((hm2.block _ (lt_of hb) (fun x => x)).trans hb)
  have HM := Lib.hid (hm.trans hm2)
  have hlong := long_any (.slice (some ⟨W.heap.size, 0, none⟩) 1 1) [s] W2 (stsFlat W2 (fun _ => True) W.heap.size [s] 1 _ (by simpa using hb2) (by simp) trivial) (by simp) (by intro t ht; simp at ht; subst ht; exact ⟨h1, h2, h3, h4⟩)
  have hls : Hid (longS [s] = decide (262144 < s.n.size + s.u.size + s.g.size + s.m.size)) := by show _ = _; simp [longS, sumS]
  unfold St.cells at hb hW hW2
  unfold St.v St.cells
  obtain ⟨d0, d1, d2, d3, d4, d5, d6, d7, d8, d9, d10, d11, d12⟩ : ((W).cell? ⟨w.heap.size, 0, none⟩ = some (.int .u16 s.ty) ∧ (W).cell? ⟨w.heap.size, 1, none⟩ = some (.int .u32 s.dev) ∧ (W).cell? ⟨w.heap.size, 2, none⟩ = some (.int .u8 s.qt) ∧ (W).cell? ⟨w.heap.size, 3, none⟩ = some (.int .u32 s.qv) ∧ (W).cell? ⟨w.heap.size, 4, none⟩ = some (.int .u64 s.qp) ∧ (W).cell? ⟨w.heap.size, 5, none⟩ = some (.int .u32 s.mo) ∧ (W).cell? ⟨w.heap.size, 6, none⟩ = some (.int .u32 s.at_) ∧ (W).cell? ⟨w.heap.size, 7, none⟩ = some (.int .u32 s.mt) ∧ (W).cell? ⟨w.heap.size, 8, none⟩ = some (.int .u64 s.len) ∧ (W).cell? ⟨w.heap.size, 9, none⟩ = some (.string s.n) ∧ (W).cell? ⟨w.heap.size, 10, none⟩ = some (.string s.u) ∧ (W).cell? ⟨w.heap.size, 11, none⟩ = some (.string s.g) ∧ (W).cell? ⟨w.heap.size, 12, none⟩ = some (.string s.m)) := ⟨(cell_of (w := W) hb 0).trans rfl, (cell_of (w := W) hb 1).trans rfl, (cell_of (w := W) hb 2).trans rfl, (cell_of (w := W) hb 3).trans rfl, (cell_of (w := W) hb 4).trans rfl, (cell_of (w := W) hb 5).trans rfl, (cell_of (w := W) hb 6).trans rfl, (cell_of (w := W) hb 7).trans rfl, (cell_of (w := W) hb 8).trans rfl, (cell_of (w := W) hb 9).trans rfl, (cell_of (w := W) hb 10).trans rfl, (cell_of (w := W) hb 11).trans rfl, (cell_of (w := W) hb 12).trans rfl⟩
  generalize hlb : longS [s] = lb at *
  clear hb2 hm hm2
  go_enter Try.func3, Try.ntmps3
  go_wp2_with fail
  refine hlong.mono ?_
  rintro e w3 ⟨rfl, m3⟩
  have HX3 := Lib.hid ((m3.block _ (lt_of HX.out) (fun x => x)).trans HX.out)
  have HM3 := Lib.hid (HM.out.trans m3)
  clear HX HM m3 hlong
  cases lb
  · have hsm := of_decide_eq_false hls.out.symm
    clear hls hlb d0 d1 d2 d3 d4 d5 d6 d7 d8 d9 d10 d11 d12 hb hW hW2
    have hX := HX3.out
    unfold St.cells at hX
    obtain ⟨d0, d1, d2, d3, d4, d5, d6, d7, d8, d9, d10, d11, d12⟩ : ((w3).cell? ⟨w.heap.size, 0, none⟩ = some (.int .u16 s.ty) ∧ (w3).cell? ⟨w.heap.size, 1, none⟩ = some (.int .u32 s.dev) ∧ (w3).cell? ⟨w.heap.size, 2, none⟩ = some (.int .u8 s.qt) ∧ (w3).cell? ⟨w.heap.size, 3, none⟩ = some (.int .u32 s.qv) ∧ (w3).cell? ⟨w.heap.size, 4, none⟩ = some (.int .u64 s.qp) ∧ (w3).cell? ⟨w.heap.size, 5, none⟩ = some (.int .u32 s.mo) ∧ (w3).cell? ⟨w.heap.size, 6, none⟩ = some (.int .u32 s.at_) ∧ (w3).cell? ⟨w.heap.size, 7, none⟩ = some (.int .u32 s.mt) ∧ (w3).cell? ⟨w.heap.size, 8, none⟩ = some (.int .u64 s.len) ∧ (w3).cell? ⟨w.heap.size, 9, none⟩ = some (.string s.n) ∧ (w3).cell? ⟨w.heap.size, 10, none⟩ = some (.string s.u) ∧ (w3).cell? ⟨w.heap.size, 11, none⟩ = some (.string s.g) ∧ (w3).cell? ⟨w.heap.size, 12, none⟩ = some (.string s.m)) := ⟨(cell_of (w := w3) hX 0).trans rfl, (cell_of (w := w3) hX 1).trans rfl, (cell_of (w := w3) hX 2).trans rfl, (cell_of (w := w3) hX 3).trans rfl, (cell_of (w := w3) hX 4).trans rfl, (cell_of (w := w3) hX 5).trans rfl, (cell_of (w := w3) hX 6).trans rfl, (cell_of (w := w3) hX 7).trans rfl, (cell_of (w := w3) hX 8).trans rfl, (cell_of (w := w3) hX 9).trans rfl, (cell_of (w := w3) hX 10).trans rfl, (cell_of (w := w3) hX 11).trans rfl, (cell_of (w := w3) hX 12).trans rfl⟩
    have hE := fun U => enc_any s U hk (by omega) (by omega) (by omega) (by omega)
    have hR := fun U => renc_any s U hk (by omega) (by omega) (by omega) (by omega)
    unfold St.v St.cells at hE hR
    go_wp2_with fail
    refine (hE _).mono ?_
    rintro e w4 ⟨rfl, m4⟩
    have HX4 := Lib.hid ((m4.block _ (lt_of HX3.out) (fun x => x)).trans HX3.out)
    have HM4 := Lib.hid (HM3.out.trans m4)
    clear d0 d1 d2 d3 d4 d5 d6 d7 d8 d9 d10 d11 d12 m4 hX hE HX3 HM3
    have hX := HX4.out
    unfold St.cells at hX
    obtain ⟨d0, d1, d2, d3, d4, d5, d6, d7, d8, d9, d10, d11, d12⟩ : ((w4).cell? ⟨w.heap.size, 0, none⟩ = some (.int .u16 s.ty) ∧ (w4).cell? ⟨w.heap.size, 1, none⟩ = some (.int .u32 s.dev) ∧ (w4).cell? ⟨w.heap.size, 2, none⟩ = some (.int .u8 s.qt) ∧ (w4).cell? ⟨w.heap.size, 3, none⟩ = some (.int .u32 s.qv) ∧ (w4).cell? ⟨w.heap.size, 4, none⟩ = some (.int .u64 s.qp) ∧ (w4).cell? ⟨w.heap.size, 5, none⟩ = some (.int .u32 s.mo) ∧ (w4).cell? ⟨w.heap.size, 6, none⟩ = some (.int .u32 s.at_) ∧ (w4).cell? ⟨w.heap.size, 7, none⟩ = some (.int .u32 s.mt) ∧ (w4).cell? ⟨w.heap.size, 8, none⟩ = some (.int .u64 s.len) ∧ (w4).cell? ⟨w.heap.size, 9, none⟩ = some (.string s.n) ∧ (w4).cell? ⟨w.heap.size, 10, none⟩ = some (.string s.u) ∧ (w4).cell? ⟨w.heap.size, 11, none⟩ = some (.string s.g) ∧ (w4).cell? ⟨w.heap.size, 12, none⟩ = some (.string s.m)) := ⟨(cell_of (w := w4) hX 0).trans rfl, (cell_of (w := w4) hX 1).trans rfl, (cell_of (w := w4) hX 2).trans rfl, (cell_of (w := w4) hX 3).trans rfl, (cell_of (w := w4) hX 4).trans rfl, (cell_of (w := w4) hX 5).trans rfl, (cell_of (w := w4) hX 6).trans rfl, (cell_of (w := w4) hX 7).trans rfl, (cell_of (w := w4) hX 8).trans rfl, (cell_of (w := w4) hX 9).trans rfl, (cell_of (w := w4) hX 10).trans rfl, (cell_of (w := w4) hX 11).trans rfl, (cell_of (w := w4) hX 12).trans rfl⟩
    go_wp2_with fail
    refine (hR _).mono ?_
    rintro e w5 ⟨rfl, m5⟩
    have HX5 := Lib.hid ((m5.block _ (lt_of HX4.out) (fun x => x)).trans HX4.out)
    have HM5 := Lib.hid (HM4.out.trans m5)
    clear d0 d1 d2 d3 d4 d5 d6 d7 d8 d9 d10 d11 d12 m5 hX hR HX4 HM4
    have hX := HX5.out
    unfold St.cells at hX
    generalize (encS s).1 = ea at *
    generalize (encS s).2 = ee at *
    have hSkN : ∀ (U V : World), ((U).cell? ⟨w.heap.size, 0, none⟩ = some (.int .u16 s.ty) ∧ (U).cell? ⟨w.heap.size, 1, none⟩ = some (.int .u32 s.dev) ∧ (U).cell? ⟨w.heap.size, 2, none⟩ = some (.int .u8 s.qt) ∧ (U).cell? ⟨w.heap.size, 3, none⟩ = some (.int .u32 s.qv) ∧ (U).cell? ⟨w.heap.size, 4, none⟩ = some (.int .u64 s.qp) ∧ (U).cell? ⟨w.heap.size, 5, none⟩ = some (.int .u32 s.mo) ∧ (U).cell? ⟨w.heap.size, 6, none⟩ = some (.int .u32 s.at_) ∧ (U).cell? ⟨w.heap.size, 7, none⟩ = some (.int .u32 s.mt) ∧ (U).cell? ⟨w.heap.size, 8, none⟩ = some (.int .u64 s.len)) → Mod (fun _ => False) U V → ((V).cell? ⟨w.heap.size, 0, none⟩ = some (.int .u16 s.ty) ∧ (V).cell? ⟨w.heap.size, 1, none⟩ = some (.int .u32 s.dev) ∧ (V).cell? ⟨w.heap.size, 2, none⟩ = some (.int .u8 s.qt) ∧ (V).cell? ⟨w.heap.size, 3, none⟩ = some (.int .u32 s.qv) ∧ (V).cell? ⟨w.heap.size, 4, none⟩ = some (.int .u64 s.qp) ∧ (V).cell? ⟨w.heap.size, 5, none⟩ = some (.int .u32 s.mo) ∧ (V).cell? ⟨w.heap.size, 6, none⟩ = some (.int .u32 s.at_) ∧ (V).cell? ⟨w.heap.size, 7, none⟩ = some (.int .u32 s.mt) ∧ (V).cell? ⟨w.heap.size, 8, none⟩ = some (.int .u64 s.len)) := by
      rintro U V ⟨h0, h1, h2, h3, h4, h5, h6, h7, h8⟩ hm
      exact ⟨keepc hm h0, keepc hm h1, keepc hm h2, keepc hm h3, keepc hm h4, keepc hm h5, keepc hm h6, keepc hm h7, keepc hm h8⟩
    have hS0 : ((w5.drew).cell? ⟨w.heap.size, 0, none⟩ = some (.int .u16 s.ty) ∧ (w5.drew).cell? ⟨w.heap.size, 1, none⟩ = some (.int .u32 s.dev) ∧ (w5.drew).cell? ⟨w.heap.size, 2, none⟩ = some (.int .u8 s.qt) ∧ (w5.drew).cell? ⟨w.heap.size, 3, none⟩ = some (.int .u32 s.qv) ∧ (w5.drew).cell? ⟨w.heap.size, 4, none⟩ = some (.int .u64 s.qp) ∧ (w5.drew).cell? ⟨w.heap.size, 5, none⟩ = some (.int .u32 s.mo) ∧ (w5.drew).cell? ⟨w.heap.size, 6, none⟩ = some (.int .u32 s.at_) ∧ (w5.drew).cell? ⟨w.heap.size, 7, none⟩ = some (.int .u32 s.mt) ∧ (w5.drew).cell? ⟨w.heap.size, 8, none⟩ = some (.int .u64 s.len)) := by
      obtain ⟨d0, d1, d2, d3, d4, d5, d6, d7, d8, d9, d10, d11, d12⟩ : ((w5.drew).cell? ⟨w.heap.size, 0, none⟩ = some (.int .u16 s.ty) ∧ (w5.drew).cell? ⟨w.heap.size, 1, none⟩ = some (.int .u32 s.dev) ∧ (w5.drew).cell? ⟨w.heap.size, 2, none⟩ = some (.int .u8 s.qt) ∧ (w5.drew).cell? ⟨w.heap.size, 3, none⟩ = some (.int .u32 s.qv) ∧ (w5.drew).cell? ⟨w.heap.size, 4, none⟩ = some (.int .u64 s.qp) ∧ (w5.drew).cell? ⟨w.heap.size, 5, none⟩ = some (.int .u32 s.mo) ∧ (w5.drew).cell? ⟨w.heap.size, 6, none⟩ = some (.int .u32 s.at_) ∧ (w5.drew).cell? ⟨w.heap.size, 7, none⟩ = some (.int .u32 s.mt) ∧ (w5.drew).cell? ⟨w.heap.size, 8, none⟩ = some (.int .u64 s.len) ∧ (w5.drew).cell? ⟨w.heap.size, 9, none⟩ = some (.string s.n) ∧ (w5.drew).cell? ⟨w.heap.size, 10, none⟩ = some (.string s.u) ∧ (w5.drew).cell? ⟨w.heap.size, 11, none⟩ = some (.string s.g) ∧ (w5.drew).cell? ⟨w.heap.size, 12, none⟩ = some (.string s.m)) := ⟨(cell_of (w := w5.drew) hX 0).trans rfl, (cell_of (w := w5.drew) hX 1).trans rfl, (cell_of (w := w5.drew) hX 2).trans rfl, (cell_of (w := w5.drew) hX 3).trans rfl, (cell_of (w := w5.drew) hX 4).trans rfl, (cell_of (w := w5.drew) hX 5).trans rfl, (cell_of (w := w5.drew) hX 6).trans rfl, (cell_of (w := w5.drew) hX 7).trans rfl, (cell_of (w := w5.drew) hX 8).trans rfl, (cell_of (w := w5.drew) hX 9).trans rfl, (cell_of (w := w5.drew) hX 10).trans rfl, (cell_of (w := w5.drew) hX 11).trans rfl, (cell_of (w := w5.drew) hX 12).trans rfl⟩
      exact ⟨d0, d1, d2, d3, d4, d5, d6, d7, d8⟩
    have Mc := Lib.hid (HM5.out.drew)
    go_wp2
    refine wp_onlyN ?_
    go_region_held_law (fun w' => ((w').cell? ⟨w.heap.size, 0, none⟩ = some (.int .u16 s.ty) ∧ (w').cell? ⟨w.heap.size, 1, none⟩ = some (.int .u32 s.dev) ∧ (w').cell? ⟨w.heap.size, 2, none⟩ = some (.int .u8 s.qt) ∧ (w').cell? ⟨w.heap.size, 3, none⟩ = some (.int .u32 s.qv) ∧ (w').cell? ⟨w.heap.size, 4, none⟩ = some (.int .u64 s.qp) ∧ (w').cell? ⟨w.heap.size, 5, none⟩ = some (.int .u32 s.mo) ∧ (w').cell? ⟨w.heap.size, 6, none⟩ = some (.int .u32 s.at_) ∧ (w').cell? ⟨w.heap.size, 7, none⟩ = some (.int .u32 s.mt) ∧ (w').cell? ⟨w.heap.size, 8, none⟩ = some (.int .u64 s.len))) (first | assumption | exact hSkN _ _ (by assumption) m4) (first
      | (go_at_call 12; refine (qid_any _ _ _ _ hk.qt hk.qv hk.qp).mono ?_; rintro e w4 ⟨rfl, m4⟩; have Mc := Lib.hid (Mc.out.trans m4))
      | (go_at_call 13; refine (rqid_any _ _ _ _ hk.qt hk.qv hk.qp).mono ?_; rintro e w4 ⟨rfl, m4⟩; have Mc := Lib.hid (Mc.out.trans m4))
      | (go_at_call 9; refine (works_any _).mono ?_; rintro e w4 ⟨rfl, m4⟩; have Mc := Lib.hid (Mc.out.trans m4)))
    all_goals refine onlyN_out ?_
    all_goals go_wp2
    all_goals go_ret
    all_goals exact ⟨rfl, Mc.out⟩
  · go_wp2_with fail
    refine (works_any _).mono ?_
    rintro e w4 ⟨rfl, m4⟩
    go_wp2
    go_ret
    exact ⟨rfl, HM3.out.trans m4⟩

set_option maxRecDepth 100000 in
theorem contract (H : Type) (enc : TypeId × Value → H) (W : World) (base : Nat) (args : Array Value) (ds gs : List (DataW H)) (before : List MemPlace)
    (hval : ∀ (j : Nat) t v, Try.f3.params[j]? = some t → args[j]? = some v → Value.okWide Try.prog W .any base t v)
    (hW : DataW.Whole enc Try.prog Try.f3.params.toList Rows.statWritesSpec.vars false W args.toList ds gs before)
    (hsz : (DataW.weightsEach Try.prog (Try.f3.params.toList ++ Rows.statWritesSpec.plain.varTypes Try.prog) (ds ++ gs)).all (· ≤ reachBytes) = true) :
    Calls Try.prog 3 args W fun e W' => ∃ v, e = .returned v ∧ Rows.statWritesSpec.post enc Try.prog Try.f3 false true false false W args v W' := by
  have hW' := hW
  obtain ⟨p, q, hA0, hV, rfl, hfz, hnd⟩ := hW
  have hA : DataW.TrodAll enc Try.prog W 0 (fun _ => true) true Try.f3.params.toList args.toList ds p := hA0
  rw [Try.params3] at hA hval hsz
  obtain ⟨v0, vs0, d0, ds0, p0, q0, hargs, rfl, rfl, h0, r0⟩ := trodAll_cons hA
  obtain ⟨rfl, rfl, rfl⟩ := trodAll_nil r0
  obtain rfl : args = #[v0] := by cases args; simp_all
  obtain ⟨s, rfl, hk, hw⟩ := arg_stat (hval 0 28 v0 rfl rfl) h0
  clear hA0
  obtain ⟨b1, b2, b3, b4⟩ := hw fun k hkm => by
    have := List.all_eq_true.1 hsz k (DataW.weights_mem_each (j := 0) (t := 28) rfl rfl k hkm)
    simpa using this
  unfold reachBytes at b1 b2 b3 b4
  refine (walk s W hk (by omega) (by omega) (by omega) (by omega)).mono fun e W' ⟨he, hg⟩ => ?_
  subst he
  exact ⟨_, rfl, law_post hW' hg (by kernel_rfl) rfl rfl rfl rfl rfl⟩

set_option maxRecDepth 100000 in
theorem lifted (os : Os) (started : os.Started) (H : Type) (enc : TypeId × Value → H) :
    ReturnsInHanded {} Try.checked os 3 .any (Rows.statWritesSpec.pre6 enc Try.prog Try.f3 Rows.statWritesRow.domain false) (Rows.statWritesSpec.post enc Try.prog Try.f3 false true false false) := by
  refine returnsInHanded_of_change_sized (C := Try.checked) own_knob started (by kernel_rfl) Try.func3
    (ChangeSpec.witness6 (enc := enc) (C := Try.checked) false ⟨#[], #[.agg #[.int .u16 0, .int .u32 0, .int .u8 0, .int .u32 0, .int .u64 0, .int .u32 0, .int .u32 0, .int .u32 0, .int .u64 0, .string .empty, .string .empty, .string .empty, .string .empty]], []⟩ 8 (by kernel_rfl) (by kernel_rfl) (by kernel_rfl) (by kernel_rfl)) ?_
  intro W base args ds gs before hval hW _ hsz _
  exact contract H enc W base args ds gs before hval hW hsz

theorem proved : Rows.StatWritesSaid :=
  OpenClaim.holds_of_wide 3 Try.f3 rfl rfl rfl rfl rfl rfl rfl ⟨rfl, rfl, rfl, rfl, rfl⟩ rfl rfl rfl rfl rfl (by kernel_rfl) Try.func3 (by kernel_rfl)
    (of_decide_eq_true (by kernel_rfl)) (by unfold Func.isWrapper; first | (rw [if_pos (by decide +kernel)]; kernel_rfl) | (rw [if_neg (by decide +kernel)]; exact ⟨rfl, rfl⟩))
    (fun os started H enc _ => lifted os started H enc)
end Go.Proofs.Ytjhhknmdnkkknaa.statWrites
