/- Package wire's pen, clearing: its fields made zero. -/
import Derived.Test.YtklpopmjpgdjnaaGreatDoorQPenRF
set_option linter.unusedVariables false
set_option linter.unusedSimpArgs false
namespace Go.Proofs.YtklpopmjpgdjnaaGreatDoor
open Go.RowKit

/-- one cell is set -/
structure Put0 (w w' : World) (bx i : Nat) (v : Value) : Prop where
  md : Mod (· = bx) w w'
  obj : ∀ cs T, w.heap[bx]? = some (.cells cs T (0, 0)) → w'.heap[bx]? = some (.cells (cs.setIfInBounds i v) T (0, 0))
theorem Put0.of {w w1 : World} {bx i : Nat} {v : Value} (m1 : Mod (fun _ => False) w w1) (hlt : bx < w.heap.size) : Put0 w (w1.setCell ⟨bx, i, none⟩ v) bx i v := by
  have hm : Mod (· = bx) w1 (w1.setCell ⟨bx, i, none⟩ v) := Mod.set1 w1 bx i v
  exact ⟨(m1.mono fun _ _ x => x.elim).trans hm, fun cs T h => heap_set ((m1.block bx hlt (fun x => x)).trans h) i v⟩
theorem Put0.ahead {w w1 w2 : World} {bx i : Nat} {v : Value} (m : Mod (fun _ => False) w w1) (hlt : bx < w.heap.size) (h : Put0 w1 w2 bx i v) : Put0 w w2 bx i v :=
  ⟨(m.mono fun _ _ x => x.elim).trans h.md, fun cs T hb => h.obj cs T ((m.block bx hlt (fun x => x)).trans hb)⟩
set_option maxHeartbeats 1000000 in
theorem on_u8_c (bp br bx i : Nat) (F : Nat → Prop) (out : List UInt8) (lg wg : Bool) (cs : Array Value) (T : TypeId) (tf rf : Value) (w : World) (h : PenAt w F bp 2 out br lg wg) (hb : w.heap[bx]? = some (.cells cs T (0, 0))) (hi : i < cs.size) :
    Calls Tryz.prog 118 #[.pointer (some ⟨bp, 0, none⟩), .pointer (some ⟨bx, i, none⟩), tf, rf] w fun e w' => e = .returned (.tuple #[]) ∧ Put0 w w' bx i (.int .u8 0) := by
  obtain ⟨c0, _, _, _, _, _⟩ := h.cells
  obtain ⟨W, hW⟩ : ∃ W, w.alloc (.cells #[.int .u8 0] 5) = W := ⟨_, rfl⟩
  have m0 : Mod (fun _ => False) w W := by subst hW; exact (Mod.refl _ _).alloc _
  have hbb : W.heap[w.heap.size]? = some (.cells #[.int .u8 0] 5 (0, 0)) := by subst hW; exact new_at _ _
  have y0 : W.cell? ⟨w.heap.size, 0, none⟩ = some (.int .u8 0) := (cell_of hbb 0).trans rfl
  have hlt := lt_of hb
  have hb1 := (m0.block bx hlt (fun x => x)).trans hb
  have x0 : W.cell? ⟨bx, i, none⟩ = some cs[i] := (cell_of hb1 i).trans (Array.getElem?_eq_getElem hi)
  have xf := free_of hb1 i
  clear h hb hbb hb1
  go_enter Tryz.func118, Tryz.ntmps118
  go_wp2
  go_end0
  exact ⟨rfl, Put0.of m0 hlt⟩
set_option maxHeartbeats 1000000 in
theorem on_u16_c (bp br bx i : Nat) (F : Nat → Prop) (out : List UInt8) (lg wg : Bool) (cs : Array Value) (T : TypeId) (tf rf : Value) (w : World) (h : PenAt w F bp 2 out br lg wg) (hb : w.heap[bx]? = some (.cells cs T (0, 0))) (hi : i < cs.size) :
    Calls Tryz.prog 117 #[.pointer (some ⟨bp, 0, none⟩), .pointer (some ⟨bx, i, none⟩), tf, rf] w fun e w' => e = .returned (.tuple #[]) ∧ Put0 w w' bx i (.int .u16 0) := by
  obtain ⟨c0, _, _, _, _, _⟩ := h.cells
  obtain ⟨W, hW⟩ : ∃ W, w.alloc (.cells #[.int .u16 0] 24) = W := ⟨_, rfl⟩
  have m0 : Mod (fun _ => False) w W := by subst hW; exact (Mod.refl _ _).alloc _
  have hbb : W.heap[w.heap.size]? = some (.cells #[.int .u16 0] 24 (0, 0)) := by subst hW; exact new_at _ _
  have y0 : W.cell? ⟨w.heap.size, 0, none⟩ = some (.int .u16 0) := (cell_of hbb 0).trans rfl
  have hlt := lt_of hb
  have hb1 := (m0.block bx hlt (fun x => x)).trans hb
  have x0 : W.cell? ⟨bx, i, none⟩ = some cs[i] := (cell_of hb1 i).trans (Array.getElem?_eq_getElem hi)
  have xf := free_of hb1 i
  clear h hb hbb hb1
  go_enter Tryz.func117, Tryz.ntmps117
  go_wp2
  go_end0
  exact ⟨rfl, Put0.of m0 hlt⟩
set_option maxHeartbeats 1000000 in
theorem on_u32_c (bp br bx i : Nat) (F : Nat → Prop) (out : List UInt8) (lg wg : Bool) (cs : Array Value) (T : TypeId) (tf rf : Value) (w : World) (h : PenAt w F bp 2 out br lg wg) (hb : w.heap[bx]? = some (.cells cs T (0, 0))) (hi : i < cs.size) :
    Calls Tryz.prog 112 #[.pointer (some ⟨bp, 0, none⟩), .pointer (some ⟨bx, i, none⟩), tf, rf] w fun e w' => e = .returned (.tuple #[]) ∧ Put0 w w' bx i (.int .u32 0) := by
  obtain ⟨c0, _, _, _, _, _⟩ := h.cells
  obtain ⟨W, hW⟩ : ∃ W, w.alloc (.cells #[.int .u32 0] 22) = W := ⟨_, rfl⟩
  have m0 : Mod (fun _ => False) w W := by subst hW; exact (Mod.refl _ _).alloc _
  have hbb : W.heap[w.heap.size]? = some (.cells #[.int .u32 0] 22 (0, 0)) := by subst hW; exact new_at _ _
  have y0 : W.cell? ⟨w.heap.size, 0, none⟩ = some (.int .u32 0) := (cell_of hbb 0).trans rfl
  have hlt := lt_of hb
  have hb1 := (m0.block bx hlt (fun x => x)).trans hb
  have x0 : W.cell? ⟨bx, i, none⟩ = some cs[i] := (cell_of hb1 i).trans (Array.getElem?_eq_getElem hi)
  have xf := free_of hb1 i
  clear h hb hbb hb1
  go_enter Tryz.func112, Tryz.ntmps112
  go_wp2
  go_end0
  exact ⟨rfl, Put0.of m0 hlt⟩
set_option maxHeartbeats 1000000 in
theorem on_u64_c (bp br bx i : Nat) (F : Nat → Prop) (out : List UInt8) (lg wg : Bool) (cs : Array Value) (T : TypeId) (tf rf : Value) (w : World) (h : PenAt w F bp 2 out br lg wg) (hb : w.heap[bx]? = some (.cells cs T (0, 0))) (hi : i < cs.size) :
    Calls Tryz.prog 119 #[.pointer (some ⟨bp, 0, none⟩), .pointer (some ⟨bx, i, none⟩), tf, rf] w fun e w' => e = .returned (.tuple #[]) ∧ Put0 w w' bx i (.int .u64 0) := by
  obtain ⟨c0, _, _, _, _, _⟩ := h.cells
  obtain ⟨W, hW⟩ : ∃ W, w.alloc (.cells #[.int .u64 0] 26) = W := ⟨_, rfl⟩
  have m0 : Mod (fun _ => False) w W := by subst hW; exact (Mod.refl _ _).alloc _
  have hbb : W.heap[w.heap.size]? = some (.cells #[.int .u64 0] 26 (0, 0)) := by subst hW; exact new_at _ _
  have y0 : W.cell? ⟨w.heap.size, 0, none⟩ = some (.int .u64 0) := (cell_of hbb 0).trans rfl
  have hlt := lt_of hb
  have hb1 := (m0.block bx hlt (fun x => x)).trans hb
  have x0 : W.cell? ⟨bx, i, none⟩ = some cs[i] := (cell_of hb1 i).trans (Array.getElem?_eq_getElem hi)
  have xf := free_of hb1 i
  clear h hb hbb hb1
  go_enter Tryz.func119, Tryz.ntmps119
  go_wp2
  go_end0
  exact ⟨rfl, Put0.of m0 hlt⟩
set_option maxHeartbeats 1000000 in
theorem on_text_c (bp br bx i : Nat) (F : Nat → Prop) (out : List UInt8) (lg wg : Bool) (cs : Array Value) (T : TypeId) (tf rf : Value) (w : World) (h : PenAt w F bp 2 out br lg wg) (hb : w.heap[bx]? = some (.cells cs T (0, 0))) (hi : i < cs.size) :
    Calls Tryz.prog 113 #[.pointer (some ⟨bp, 0, none⟩), .pointer (some ⟨bx, i, none⟩), tf, rf] w fun e w' => e = .returned (.tuple #[]) ∧ Put0 w w' bx i (.string { data := #[] }) := by
  obtain ⟨c0, _, _, _, _, _⟩ := h.cells
  obtain ⟨W, hW⟩ : ∃ W, w.alloc (.cells #[.string { data := #[] }] 9) = W := ⟨_, rfl⟩
  have m0 : Mod (fun _ => False) w W := by subst hW; exact (Mod.refl _ _).alloc _
  have hbb : W.heap[w.heap.size]? = some (.cells #[.string { data := #[] }] 9 (0, 0)) := by subst hW; exact new_at _ _
  have y0 : W.cell? ⟨w.heap.size, 0, none⟩ = some (.string { data := #[] }) := (cell_of hbb 0).trans rfl
  have hlt := lt_of hb
  have hb1 := (m0.block bx hlt (fun x => x)).trans hb
  have x0 : W.cell? ⟨bx, i, none⟩ = some cs[i] := (cell_of hb1 i).trans (Array.getElem?_eq_getElem hi)
  have xf := free_of hb1 i
  clear h hb hbb hb1
  go_enter Tryz.func113, Tryz.ntmps113
  go_wp2
  go_end0
  exact ⟨rfl, Put0.of m0 hlt⟩
set_option maxHeartbeats 1000000 in
theorem pu8_c (bp br bx i : Nat) (F : Nat → Prop) (out : List UInt8) (lg wg : Bool) (cs : Array Value) (T : TypeId) (w : World) (h : PenAt w F bp 2 out br lg wg) (hb : w.heap[bx]? = some (.cells cs T (0, 0))) (hi : i < cs.size) :
    Calls Tryz.prog 98 #[.pointer (some ⟨bp, 0, none⟩), .pointer (some ⟨bx, i, none⟩)] w fun e w' => e = .returned (.tuple #[]) ∧ Put0 w w' bx i (.int .u8 0) := by
  obtain ⟨_, c3, _, _, _, _⟩ := h.cells
  have hO := fun tf rf => on_u8_c bp br bx i F out lg wg cs T tf rf w h hb hi
  clear h hb
  go_enter Tryz.func98, Tryz.ntmps98
  go_wp2_with fail
  refine (hO _ _).mono ?_
  rintro e w2 ⟨rfl, hp⟩
  go_wp2
  go_end0
  exact ⟨rfl, hp⟩
set_option maxHeartbeats 1000000 in
theorem pu16_c (bp br bx i : Nat) (F : Nat → Prop) (out : List UInt8) (lg wg : Bool) (cs : Array Value) (T : TypeId) (w : World) (h : PenAt w F bp 2 out br lg wg) (hb : w.heap[bx]? = some (.cells cs T (0, 0))) (hi : i < cs.size) :
    Calls Tryz.prog 95 #[.pointer (some ⟨bp, 0, none⟩), .pointer (some ⟨bx, i, none⟩)] w fun e w' => e = .returned (.tuple #[]) ∧ Put0 w w' bx i (.int .u16 0) := by
  obtain ⟨_, c3, _, _, _, _⟩ := h.cells
  have hO := fun tf rf => on_u16_c bp br bx i F out lg wg cs T tf rf w h hb hi
  clear h hb
  go_enter Tryz.func95, Tryz.ntmps95
  go_wp2_with fail
  refine (hO _ _).mono ?_
  rintro e w2 ⟨rfl, hp⟩
  go_wp2
  go_end0
  exact ⟨rfl, hp⟩
set_option maxHeartbeats 1000000 in
theorem pu32_c (bp br bx i : Nat) (F : Nat → Prop) (out : List UInt8) (lg wg : Bool) (cs : Array Value) (T : TypeId) (w : World) (h : PenAt w F bp 2 out br lg wg) (hb : w.heap[bx]? = some (.cells cs T (0, 0))) (hi : i < cs.size) :
    Calls Tryz.prog 92 #[.pointer (some ⟨bp, 0, none⟩), .pointer (some ⟨bx, i, none⟩)] w fun e w' => e = .returned (.tuple #[]) ∧ Put0 w w' bx i (.int .u32 0) := by
  obtain ⟨_, c3, _, _, _, _⟩ := h.cells
  have hO := fun tf rf => on_u32_c bp br bx i F out lg wg cs T tf rf w h hb hi
  clear h hb
  go_enter Tryz.func92, Tryz.ntmps92
  go_wp2_with fail
  refine (hO _ _).mono ?_
  rintro e w2 ⟨rfl, hp⟩
  go_wp2
  go_end0
  exact ⟨rfl, hp⟩
set_option maxHeartbeats 1000000 in
theorem pu64_c (bp br bx i : Nat) (F : Nat → Prop) (out : List UInt8) (lg wg : Bool) (cs : Array Value) (T : TypeId) (w : World) (h : PenAt w F bp 2 out br lg wg) (hb : w.heap[bx]? = some (.cells cs T (0, 0))) (hi : i < cs.size) :
    Calls Tryz.prog 99 #[.pointer (some ⟨bp, 0, none⟩), .pointer (some ⟨bx, i, none⟩)] w fun e w' => e = .returned (.tuple #[]) ∧ Put0 w w' bx i (.int .u64 0) := by
  obtain ⟨_, c3, _, _, _, _⟩ := h.cells
  have hO := fun tf rf => on_u64_c bp br bx i F out lg wg cs T tf rf w h hb hi
  clear h hb
  go_enter Tryz.func99, Tryz.ntmps99
  go_wp2_with fail
  refine (hO _ _).mono ?_
  rintro e w2 ⟨rfl, hp⟩
  go_wp2
  go_end0
  exact ⟨rfl, hp⟩
set_option maxHeartbeats 1000000 in
theorem ptext_c (bp br bx i : Nat) (F : Nat → Prop) (out : List UInt8) (lg wg : Bool) (cs : Array Value) (T : TypeId) (w : World) (h : PenAt w F bp 2 out br lg wg) (hb : w.heap[bx]? = some (.cells cs T (0, 0))) (hi : i < cs.size) :
    Calls Tryz.prog 93 #[.pointer (some ⟨bp, 0, none⟩), .pointer (some ⟨bx, i, none⟩)] w fun e w' => e = .returned (.tuple #[]) ∧ Put0 w w' bx i (.string { data := #[] }) := by
  obtain ⟨W, hW⟩ : ∃ W, w.alloc (.cells #[.pointer (some ⟨bp, 0, none⟩)] 63) = W := ⟨_, rfl⟩
  have m0 : Mod (fun _ => False) w W := by subst hW; exact (Mod.refl _ _).alloc _
  have hbb : W.heap[w.heap.size]? = some (.cells #[.pointer (some ⟨bp, 0, none⟩)] 63 (0, 0)) := by subst hW; exact new_at _ _
  have hb0 : W.cell? ⟨w.heap.size, 0, none⟩ = some (.pointer (some ⟨bp, 0, none⟩)) := (cell_of hbb 0).trans rfl
  have hW1 := h.mod m0 (fun _ x => x.elim)
  obtain ⟨_, c3, _, _, _, _⟩ := hW1.cells
  have hlt := lt_of hb
  have hO := fun nq tf rf => on_text_c bp br bx i F out lg wg cs T tf rf (W.drewN nq) (hW1.mod ((Mod.refl (fun _ => False) W).drewN nq) (fun _ x => x.elim)) ((m0.block bx hlt (fun x => x)).trans hb) hi
  have M0 := Lib.hid m0
  clear h hb m0 hbb hW1
  go_enter Tryz.func93, Tryz.ntmps93
  go_wp2
  refine wp_region_then2 (k := 8) _ _ rfl rfl rfl (by kernel_rfl) (by kernel_rfl) (by kernel_rfl) ?_
  simp only [List.take_succ_cons, List.take_zero]
  repeat (go_big_quiet_step (fail))
  refine wpQuiet_nil ?_
  intro _ hw'
  obtain ⟨nq, hw''⟩ := hw'
  subst hw''
  intro K hK
  go_simp
  refine (hO nq _ _).mono ?_
  rintro e w2 ⟨rfl, hp⟩
  refine hK _ _ ?_
  clear hK K
  go_wp2
  go_end0
  exact ⟨rfl, hp.ahead (M0.out.drewN nq) hlt⟩
set_option maxHeartbeats 1000000 in
theorem pdata_c (bp br bx i : Nat) (F : Nat → Prop) (out : List UInt8) (lg wg : Bool) (cs : Array Value) (T : TypeId) (w : World) (h : PenAt w F bp 2 out br lg wg) (hb : w.heap[bx]? = some (.cells cs T (0, 0))) (hi : i < cs.size) :
    Calls Tryz.prog 100 #[.pointer (some ⟨bp, 0, none⟩), .pointer (some ⟨bx, i, none⟩)] w fun e w' => e = .returned (.tuple #[]) ∧ Put0 w w' bx i (.string { data := #[] }) := by
  obtain ⟨W, hW⟩ : ∃ W, w.alloc (.cells #[.pointer (some ⟨bp, 0, none⟩)] 63) = W := ⟨_, rfl⟩
  have m0 : Mod (fun _ => False) w W := by subst hW; exact (Mod.refl _ _).alloc _
  have hbb : W.heap[w.heap.size]? = some (.cells #[.pointer (some ⟨bp, 0, none⟩)] 63 (0, 0)) := by subst hW; exact new_at _ _
  have hb0 : W.cell? ⟨w.heap.size, 0, none⟩ = some (.pointer (some ⟨bp, 0, none⟩)) := (cell_of hbb 0).trans rfl
  have hW1 := h.mod m0 (fun _ x => x.elim)
  obtain ⟨_, c3, _, _, _, _⟩ := hW1.cells
  have hlt := lt_of hb
  have hO := fun nq tf rf => on_text_c bp br bx i F out lg wg cs T tf rf (W.drewN nq) (hW1.mod ((Mod.refl (fun _ => False) W).drewN nq) (fun _ x => x.elim)) ((m0.block bx hlt (fun x => x)).trans hb) hi
  have M0 := Lib.hid m0
  clear h hb m0 hbb hW1
  go_enter Tryz.func100, Tryz.ntmps100
  go_wp2_with fail
  refine (hO 0 _ _).mono ?_
  rintro e w2 ⟨rfl, hp⟩
  go_wp2
  go_end0
  exact ⟨rfl, hp.ahead M0.out hlt⟩
/-- a qid is set -/
structure PutQ0 (w w' : World) (bx i : Nat) : Prop where
  md : Mod (· = bx) w w'
  obj : ∀ cs T, w.heap[bx]? = some (.cells cs T (0, 0)) → w'.heap[bx]? = some (.cells (((cs.setIfInBounds i (.int .u8 0)).setIfInBounds (i + 1) (.int .u32 0)).setIfInBounds (i + 2) (.int .u64 0)) T (0, 0))
set_option maxHeartbeats 1000000 in
theorem pqid_c (bp br bx i : Nat) (F : Nat → Prop) (out : List UInt8) (lg wg : Bool) (cs : Array Value) (T : TypeId) (w : World) (h : PenAt w F bp 2 out br lg wg) (hF : ∀ k, F k → k ≠ bx) (hb : w.heap[bx]? = some (.cells cs T (0, 0))) (hi : i + 2 < cs.size) :
    Calls Tryz.prog 94 #[.pointer (some ⟨bp, 0, none⟩), .pointer (some ⟨bx, i, none⟩)] w fun e w' => e = .returned (.tuple #[]) ∧ PutQ0 w w' bx i := by
  have hd : ∀ k, k = bx → ¬ F k := fun k hk x => hF k x hk
  have hA := pu8_c bp br bx i F out lg wg cs T w h hb (by omega)
  have hB := fun W cs hp (hb : W.heap[bx]? = some (.cells cs T (0, 0))) hi => pu32_c bp br bx (i + 1) F out lg wg cs T W hp hb hi
  have hC := fun W cs hp (hb : W.heap[bx]? = some (.cells cs T (0, 0))) hi => pu64_c bp br bx (i + 2) F out lg wg cs T W hp hb hi
  have H := Lib.hid h
  have HB := Lib.hid hb
  clear h hb
  go_enter Tryz.func94, Tryz.ntmps94
  go_wp2_with fail
  refine hA.mono ?_
  rintro e w1 ⟨rfl, p1⟩
  have hB1 := hB w1 _ (H.out.mod p1.md hd) (p1.obj _ _ HB.out) (by rw [Array.size_setIfInBounds]; omega)
  clear hA hB
  go_wp2_with fail
  refine hB1.mono ?_
  rintro e w2 ⟨rfl, p2⟩
  have hC1 := hC w2 _ ((H.out.mod p1.md hd).mod p2.md hd) (p2.obj _ _ (p1.obj _ _ HB.out)) (by rw [Array.size_setIfInBounds, Array.size_setIfInBounds]; omega)
  clear hB1 hC
  go_wp2_with fail
  refine hC1.mono ?_
  rintro e w3 ⟨rfl, p3⟩
  clear hC1
  go_wp2
  go_end0
  exact ⟨rfl, (p1.md.trans p2.md).trans p3.md, fun cs T h => p3.obj _ _ (p2.obj _ _ (p1.obj _ _ h))⟩
/-- a stat is set -/
structure PutS0 (w w' : World) (bx i : Nat) : Prop where
  md : Mod (· = bx) w w'
  obj : ∀ cs T, w.heap[bx]? = some (.cells cs T (0, 0)) → w'.heap[bx]? = some (.cells (cs.toList.take i ++ St.zero.cells ++ cs.toList.drop (i + 13)).toArray T (0, 0))
set_option maxHeartbeats 2000000 in
set_option maxRecDepth 100000 in
theorem on_stat_c (bp br bx i : Nat) (F : Nat → Prop) (out : List UInt8) (lg wg : Bool) (cs : Array Value) (T : TypeId) (tf rf : Value) (w : World) (h : PenAt w F bp 2 out br lg wg) (hb : w.heap[bx]? = some (.cells cs T (0, 0))) (hi : i + 13 ≤ cs.size) :
    Calls Tryz.prog 124 #[.pointer (some ⟨bp, 0, none⟩), .pointer (some ⟨bx, i, none⟩), tf, rf] w fun e w' => e = .returned (.tuple #[]) ∧ PutS0 w w' bx i := by
  obtain ⟨c0, _, _, _, _, _⟩ := h.cells
  obtain ⟨W, hW⟩ : ∃ W, w.alloc (.cells #[.int .u16 0, .int .u32 0, .int .u8 0, .int .u32 0, .int .u64 0, .int .u32 0, .int .u32 0, .int .u32 0, .int .u64 0, .string { data := #[] }, .string { data := #[] }, .string { data := #[] }, .string { data := #[] }] 31) = W := ⟨_, rfl⟩
  have m0 : Mod (fun _ => False) w W := by subst hW; exact (Mod.refl _ _).alloc _
  have hbb : W.heap[w.heap.size]? = some (.cells #[.int .u16 0, .int .u32 0, .int .u8 0, .int .u32 0, .int .u64 0, .int .u32 0, .int .u32 0, .int .u32 0, .int .u64 0, .string { data := #[] }, .string { data := #[] }, .string { data := #[] }, .string { data := #[] }] 31 (0, 0)) := by subst hW; exact new_at _ _
  have hz0 : (#[.int .u16 0, .int .u32 0, .int .u8 0, .int .u32 0, .int .u64 0, .int .u32 0, .int .u32 0, .int .u32 0, .int .u64 0, .string { data := #[] }, .string { data := #[] }, .string { data := #[] }, .string { data := #[] }] : Array Value) = St.zero.cells.toArray := rfl
  have hrg : W.rangeAt w.heap.size 0 St.zero.cells := fun j v hv => by rw [Nat.zero_add, cell_of hbb, hz0, List.getElem?_toArray]; exact hv
  clear hz0
  have hlt := lt_of hb
  have hb1 := (m0.block bx hlt (fun x => x)).trans hb
  obtain ⟨w2, hst, hb2, m2⟩ := st_part (P := Tryz.prog) W bx i T St.zero.cells cs hb1 (by rw [st_len]; exact hi) (st_one _)
  have hsz := st_len St.zero
  have HB2 := Lib.hid hb2
  have HB := Lib.hid hb
  have HM : Hid (Mod (· = bx) w w2) := (m0.mono fun _ _ x => x.elim).trans m2
  clear h hb hbb hb1 hb2 m2
  generalize hz : St.zero = z at *
  go_enter Tryz.func124, Tryz.ntmps124
  go_wp2_with (refine wpList_load_mid rfl 31 (.tmp 14) rfl w.heap.size 0 rfl z.cells _ hrg Tryz.underlying31 rfl (by kernel_rfl) ?_)
  go_wp2
  go_end0
  refine ⟨rfl, HM.out, fun cs' T' h' => ?_⟩
  rw [HB.out] at h'
  injection h' with h'
  injection h' with e1 e2
  subst e1 e2
  rw [hsz] at HB2
  subst hz
  exact HB2.out
end Go.Proofs.YtklpopmjpgdjnaaGreatDoor
