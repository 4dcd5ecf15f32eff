/- Package wire's pen, reading: texts, data, qids. -/
import Derived.Test.YtklpopmjpgdjnaaGreatDoorQPenR
set_option linter.unusedVariables false
set_option linter.unusedSimpArgs false
namespace Go.Proofs.YtklpopmjpgdjnaaGreatDoor
open Go.RowKit

set_option maxHeartbeats 1000000 in
theorem ptext_r (bp br bx i : Nat) (F : Nat → Prop) (out : List UInt8) (lg wr : Bool) (r : Rd) (cs : Array Value) (T : TypeId) (w : World) (h : PenAt w F bp 1 out br lg wr) (hbp : bp ≠ br) (hb : w.heap[bx]? = some (.cells cs T (0, 0))) (hi : i < cs.size) (hne : bx ≠ br) (hr : w.heap[br]? = some (rdO r)) (hs : r.s.size ≤ maxLen) (hat : r.at_ ≤ r.s.size) :
    Calls Tryz.prog 93 #[.pointer (some ⟨bp, 0, none⟩), .pointer (some ⟨bx, i, none⟩)] w fun e w' => e = .returned (.tuple #[]) ∧ Put1 w w' br bx i (.string (r.text).1) (r.text).2 := by
  obtain ⟨W, hW⟩ : ∃ W, w.alloc (.cells #[.pointer (some ⟨bp, 0, none⟩)] 63) = W := ⟨_, rfl⟩
  have m0 : Mod (fun _ => False) w W := by subst hW; exact (Mod.refl _ _).alloc _
  have hbb : W.heap[w.heap.size]? = some (.cells #[.pointer (some ⟨bp, 0, none⟩)] 63 (0, 0)) := by subst hW; exact new_at _ _
  have hb0 : W.cell? ⟨w.heap.size, 0, none⟩ = some (.pointer (some ⟨bp, 0, none⟩)) := (cell_of hbb 0).trans rfl
  have hW1 := h.mod m0 (fun _ x => x.elim)
  obtain ⟨_, c3, _, _, _, _⟩ := hW1.cells
  have hlt := lt_of hb
  have hrl := lt_of hr
  have hO := fun nq wf => on_text_r bp br bx i w.heap.size F out lg wr r cs T wf (W.drewN nq) (hW1.mod ((Mod.refl (fun _ => False) W).drewN nq) (fun _ x => x.elim)) hb0 (by omega) hbp ((m0.block bx hlt (fun x => x)).trans hb) hi hne ((m0.block br hrl (fun x => x)).trans hr) hs hat
  have M0 := Lib.hid m0
  clear h hb m0 hbb hW1 hr hs hat
  go_enter Tryz.func93, Tryz.ntmps93
  go_wp2
  refine wp_region_then2 (k := 8) _ _ rfl rfl rfl (by kernel_rfl) (by kernel_rfl) (by kernel_rfl) ?_
  simp only [List.take_succ_cons, List.take_zero]
  repeat (go_big_quiet_step (fail))
  refine wpQuiet_nil ?_
  intro _ hw'
  obtain ⟨nq, hw''⟩ := hw'
  subst hw''
  intro K hK
  go_simp
  refine (hO nq _).mono ?_
  rintro e w2 ⟨rfl, hp⟩
  refine hK _ _ ?_
  clear hK K
  go_wp2
  go_end0
  exact ⟨rfl, hp.ahead (M0.out.drewN nq) hlt⟩
set_option maxHeartbeats 1000000 in
theorem on_data_r (bp br bx i bb : Nat) (F : Nat → Prop) (out : List UInt8) (lg wr : Bool) (r : Rd) (cs : Array Value) (T : TypeId) (wf : Value) (w : World) (h : PenAt w F bp 1 out br lg wr) (hc : w.cell? ⟨bb, 0, none⟩ = some (.pointer (some ⟨bp, 0, none⟩))) (hbb : bb ≠ br) (hbp : bp ≠ br) (hb : w.heap[bx]? = some (.cells cs T (0, 0))) (hi : i < cs.size) (hne : bx ≠ br) (hr : w.heap[br]? = some (rdO r)) (hs : r.s.size ≤ maxLen) (hat : r.at_ ≤ r.s.size) :
    Calls Tryz.prog 113 #[.pointer (some ⟨bp, 0, none⟩), .pointer (some ⟨bx, i, none⟩), wf, .func (.func 123) #[] #[.pointer (some ⟨bb, 0, none⟩)]] w fun e w' => e = .returned (.tuple #[]) ∧ Put1 w w' br bx i (.string (rdData r).1) (rdData r).2 := by
  obtain ⟨c0, _, _, _, _, _⟩ := h.cells
  have hU := data2_r bp br bb F out lg wr r w h hc hbb hbp hr hs hat
  have hlt := lt_of hb
  have HB := Lib.hid hb
  clear h hb hr hs hat hc
  go_enter Tryz.func113, Tryz.ntmps113
  go_wp2_with fail
  refine hU.mono ?_
  rintro e w1 ⟨rfl, h1, m1⟩
  have hb1 := (m1.block bx hlt hne).trans HB.out
  have x0 : w1.cell? ⟨bx, i, none⟩ = some cs[i] := (cell_of hb1 i).trans (Array.getElem?_eq_getElem hi)
  have xf := free_of hb1 i
  have H1 := Lib.hid h1
  clear h1 hb1 hU
  go_wp2
  go_end0
  exact ⟨rfl, Put1.of H1.out m1 hne hlt⟩
set_option maxHeartbeats 1000000 in
theorem pdata_r (bp br bx i : Nat) (F : Nat → Prop) (out : List UInt8) (lg wr : Bool) (r : Rd) (cs : Array Value) (T : TypeId) (w : World) (h : PenAt w F bp 1 out br lg wr) (hbp : bp ≠ br) (hb : w.heap[bx]? = some (.cells cs T (0, 0))) (hi : i < cs.size) (hne : bx ≠ br) (hr : w.heap[br]? = some (rdO r)) (hs : r.s.size ≤ maxLen) (hat : r.at_ ≤ r.s.size) :
    Calls Tryz.prog 100 #[.pointer (some ⟨bp, 0, none⟩), .pointer (some ⟨bx, i, none⟩)] w fun e w' => e = .returned (.tuple #[]) ∧ Put1 w w' br bx i (.string (rdData r).1) (rdData r).2 := by
  obtain ⟨W, hW⟩ : ∃ W, w.alloc (.cells #[.pointer (some ⟨bp, 0, none⟩)] 63) = W := ⟨_, rfl⟩
  have m0 : Mod (fun _ => False) w W := by subst hW; exact (Mod.refl _ _).alloc _
  have hbb : W.heap[w.heap.size]? = some (.cells #[.pointer (some ⟨bp, 0, none⟩)] 63 (0, 0)) := by subst hW; exact new_at _ _
  have hb0 : W.cell? ⟨w.heap.size, 0, none⟩ = some (.pointer (some ⟨bp, 0, none⟩)) := (cell_of hbb 0).trans rfl
  have hW1 := h.mod m0 (fun _ x => x.elim)
  obtain ⟨_, c3, _, _, _, _⟩ := hW1.cells
  have hlt := lt_of hb
  have hrl := lt_of hr
  have hO := fun nq wf => on_data_r bp br bx i w.heap.size F out lg wr r cs T wf (W.drewN nq) (hW1.mod ((Mod.refl (fun _ => False) W).drewN nq) (fun _ x => x.elim)) hb0 (by omega) hbp ((m0.block bx hlt (fun x => x)).trans hb) hi hne ((m0.block br hrl (fun x => x)).trans hr) hs hat
  have M0 := Lib.hid m0
  clear h hb m0 hbb hW1 hr hs hat
  go_enter Tryz.func100, Tryz.ntmps100
  go_wp2_with fail
  refine (hO 0 _).mono ?_
  rintro e w2 ⟨rfl, hp⟩
  go_wp2
  go_end0
  exact ⟨rfl, hp.ahead M0.out hlt⟩
/-- what is read is put into the three cells of a qid -/
structure PutQ (w w' : World) (br bx i : Nat) (q : Qd) (r' : Rd) : Prop where
  rd : w'.heap[br]? = some (rdO r')
  md : Mod (fun k => k = br ∨ k = bx) w w'
  obj : ∀ cs T, w.heap[bx]? = some (.cells cs T (0, 0)) → w'.heap[bx]? = some (.cells (((cs.setIfInBounds i (.int .u8 q.t)).setIfInBounds (i + 1) (.int .u32 q.v)).setIfInBounds (i + 2) (.int .u64 q.p)) T (0, 0))
theorem Rd.num_ok {r : Rd} (k : Nat) (h : r.s.size ≤ maxLen ∧ r.at_ ≤ r.s.size) : (r.num k).2.s.size ≤ maxLen ∧ (r.num k).2.at_ ≤ (r.num k).2.s.size := ⟨by rw [Rd.num_s]; exact h.1, Rd.num_at r k h.2⟩
theorem rdQid_s (r : Rd) : (rdQid r).2.s = r.s := by unfold rdQid; simp only [Rd.num_s]
theorem rdQid_ok {r : Rd} (h : r.s.size ≤ maxLen ∧ r.at_ ≤ r.s.size) : (rdQid r).2.s.size ≤ maxLen ∧ (rdQid r).2.at_ ≤ (rdQid r).2.s.size := Rd.num_ok 8 (Rd.num_ok 4 (Rd.num_ok 1 h))
set_option maxHeartbeats 1000000 in
theorem pqid_r (bp br bx i : Nat) (F : Nat → Prop) (out : List UInt8) (lg wr : Bool) (r : Rd) (cs : Array Value) (T : TypeId) (w : World) (h : PenAt w F bp 1 out br lg wr) (hF : ∀ k, F k → k ≠ br ∧ k ≠ bx) (hb : w.heap[bx]? = some (.cells cs T (0, 0))) (hi : i + 2 < cs.size) (hne : bx ≠ br) (hr : w.heap[br]? = some (rdO r)) (hok : r.s.size ≤ maxLen ∧ r.at_ ≤ r.s.size) :
    Calls Tryz.prog 94 #[.pointer (some ⟨bp, 0, none⟩), .pointer (some ⟨bx, i, none⟩)] w fun e w' => e = .returned (.tuple #[]) ∧ PutQ w w' br bx i (rdQid r).1 (rdQid r).2 := by
  have hd : ∀ k, k = br ∨ k = bx → ¬ F k := fun k hk x => by rcases hk with e | e; exact (hF k x).1 e; exact (hF k x).2 e
  have hA := pu8_r bp br bx i F out lg wr r cs T w h hb (by omega) hne hr hok.1 hok.2
  have hB := fun W cs hp (hb : W.heap[bx]? = some (.cells cs T (0, 0))) hi hr => pu32_r bp br bx (i + 1) F out lg wr (r.num 1).2 cs T W hp hb hi hne hr (Rd.num_ok 1 hok).1 (Rd.num_ok 1 hok).2
  have hC := fun W cs hp (hb : W.heap[bx]? = some (.cells cs T (0, 0))) hi hr => pu64_r bp br bx (i + 2) F out lg wr ((r.num 1).2.num 4).2 cs T W hp hb hi hne hr (Rd.num_ok 4 (Rd.num_ok 1 hok)).1 (Rd.num_ok 4 (Rd.num_ok 1 hok)).2
  have H := Lib.hid h
  have HB := Lib.hid hb
  clear h hb hr hok
  go_enter Tryz.func94, Tryz.ntmps94
  go_wp2_with fail
  refine hA.mono ?_
  rintro e w1 ⟨rfl, p1⟩
  have hB1 := hB w1 _ (H.out.mod p1.md hd) (p1.obj _ _ HB.out) (by rw [Array.size_setIfInBounds]; omega) p1.rd
  clear hA hB
  go_wp2_with fail
  refine hB1.mono ?_
  rintro e w2 ⟨rfl, p2⟩
  have hC1 := hC w2 _ ((H.out.mod p1.md hd).mod p2.md hd) (p2.obj _ _ (p1.obj _ _ HB.out)) (by rw [Array.size_setIfInBounds, Array.size_setIfInBounds]; omega) p2.rd
  clear hB1 hC
  go_wp2_with fail
  refine hC1.mono ?_
  rintro e w3 ⟨rfl, p3⟩
  clear hC1
  go_wp2
  go_end0
  exact ⟨rfl, p3.rd, (p1.md.trans p2.md).trans p3.md, fun cs T h => p3.obj _ _ (p2.obj _ _ (p1.obj _ _ h))⟩
end Go.Proofs.YtklpopmjpgdjnaaGreatDoor
