/- Package wire's pen, reading: numbers, texts, qids, data. -/
import Derived.Test.YtklpopmjpgdjnaaGreatDoorQPenF
set_option linter.unusedVariables false
set_option linter.unusedSimpArgs false
namespace Go.Proofs.YtklpopmjpgdjnaaGreatDoor
open Go.RowKit

/-- what is read is put into one cell -/
structure Put1 (w w' : World) (br bx i : Nat) (v : Value) (r' : Rd) : Prop where
  rd : w'.heap[br]? = some (rdO r')
  md : Mod (fun k => k = br ∨ k = bx) w w'
  obj : ∀ cs T, w.heap[bx]? = some (.cells cs T (0, 0)) → w'.heap[bx]? = some (.cells (cs.setIfInBounds i v) T (0, 0))
theorem Put1.of {w w1 : World} {br bx i : Nat} {v : Value} {r' : Rd} (h1 : w1.heap[br]? = some (rdO r')) (m1 : Mod (· = br) w w1) (hne : bx ≠ br) (hlt : bx < w.heap.size) : Put1 w (w1.setCell ⟨bx, i, none⟩ v) br bx i v r' := by
  have hm : Mod (· = bx) w1 (w1.setCell ⟨bx, i, none⟩ v) := Mod.set1 w1 bx i v
  refine ⟨(hm.block br (lt_of h1) (fun e => hne e.symm)).trans h1, (m1.mono fun k _ e => Or.inl e).trans' hm fun k _ e => Or.inr e, fun cs T h => heap_set ((m1.block bx hlt hne).trans h) i v⟩
theorem Put1.ahead {w w1 w2 : World} {br bx i : Nat} {v : Value} {r' : Rd} (m : Mod (fun _ => False) w w1) (hlt : bx < w.heap.size) (h : Put1 w1 w2 br bx i v r') : Put1 w w2 br bx i v r' :=
  ⟨h.rd, (m.mono fun _ _ x => x.elim).trans h.md, fun cs T hb => h.obj cs T ((m.block bx hlt (fun x => x)).trans hb)⟩
set_option maxHeartbeats 1000000 in
theorem on_pu8_r (bp br bx i : Nat) (F : Nat → Prop) (out : List UInt8) (lg wr : Bool) (r : Rd) (cs : Array Value) (T : TypeId) (wf : Value) (w : World) (h : PenAt w F bp 1 out br lg wr) (hb : w.heap[bx]? = some (.cells cs T (0, 0))) (hi : i < cs.size) (hne : bx ≠ br) (hr : w.heap[br]? = some (rdO r)) (hs : r.s.size ≤ maxLen) (hat : r.at_ ≤ r.s.size) :
    Calls Tryz.prog 118 #[.pointer (some ⟨bp, 0, none⟩), .pointer (some ⟨bx, i, none⟩), wf, .func (.func 24) #[.pointer (some ⟨br, 0, none⟩)] #[]] w fun e w' => e = .returned (.tuple #[]) ∧ Put1 w w' br bx i (.int .u8 (r.num 1).1) (r.num 1).2 := by
  obtain ⟨c0, _, _, _, _, _⟩ := h.cells
  have hU := U8_any br r w hr hs hat
  have hlt := lt_of hb
  have HB := Lib.hid hb
  clear h hb hr hs hat
  go_enter Tryz.func118, Tryz.ntmps118
  go_wp2_with (go_at_call 24; refine hU.mono ?_; rintro e w1 ⟨rfl, h1, m1⟩; have hb1 := (m1.block bx hlt hne).trans HB.out; have x0 : w1.cell? ⟨bx, i, none⟩ = some cs[i] := (cell_of hb1 i).trans (Array.getElem?_eq_getElem hi); have xf := free_of hb1 i; have H1 := Lib.hid h1; clear h1 hb1)
  go_end0
  exact ⟨rfl, Put1.of H1.out m1 hne hlt⟩
set_option maxHeartbeats 1000000 in
theorem pu8_r (bp br bx i : Nat) (F : Nat → Prop) (out : List UInt8) (lg wr : Bool) (r : Rd) (cs : Array Value) (T : TypeId) (w : World) (h : PenAt w F bp 1 out br lg wr) (hb : w.heap[bx]? = some (.cells cs T (0, 0))) (hi : i < cs.size) (hne : bx ≠ br) (hr : w.heap[br]? = some (rdO r)) (hs : r.s.size ≤ maxLen) (hat : r.at_ ≤ r.s.size) :
    Calls Tryz.prog 98 #[.pointer (some ⟨bp, 0, none⟩), .pointer (some ⟨bx, i, none⟩)] w fun e w' => e = .returned (.tuple #[]) ∧ Put1 w w' br bx i (.int .u8 (r.num 1).1) (r.num 1).2 := by
  obtain ⟨_, c3, _, _, _, _⟩ := h.cells
  have hO := fun wf => on_pu8_r bp br bx i F out lg wr r cs T wf w h hb hi hne hr hs hat
  clear h hb hr hs hat
  go_enter Tryz.func98, Tryz.ntmps98
  go_wp2_with fail
  refine (hO _).mono ?_
  rintro e w2 ⟨rfl, hp⟩
  go_wp2
  go_end0
  exact ⟨rfl, hp⟩
set_option maxHeartbeats 1000000 in
theorem on_pu16_r (bp br bx i : Nat) (F : Nat → Prop) (out : List UInt8) (lg wr : Bool) (r : Rd) (cs : Array Value) (T : TypeId) (wf : Value) (w : World) (h : PenAt w F bp 1 out br lg wr) (hb : w.heap[bx]? = some (.cells cs T (0, 0))) (hi : i < cs.size) (hne : bx ≠ br) (hr : w.heap[br]? = some (rdO r)) (hs : r.s.size ≤ maxLen) (hat : r.at_ ≤ r.s.size) :
    Calls Tryz.prog 117 #[.pointer (some ⟨bp, 0, none⟩), .pointer (some ⟨bx, i, none⟩), wf, .func (.func 25) #[.pointer (some ⟨br, 0, none⟩)] #[]] w fun e w' => e = .returned (.tuple #[]) ∧ Put1 w w' br bx i (.int .u16 (r.num 2).1) (r.num 2).2 := by
  obtain ⟨c0, _, _, _, _, _⟩ := h.cells
  have hU := U16_any br r w hr hs hat
  have hlt := lt_of hb
  have HB := Lib.hid hb
  clear h hb hr hs hat
  go_enter Tryz.func117, Tryz.ntmps117
  go_wp2_with (go_at_call 25; refine hU.mono ?_; rintro e w1 ⟨rfl, h1, m1⟩; have hb1 := (m1.block bx hlt hne).trans HB.out; have x0 : w1.cell? ⟨bx, i, none⟩ = some cs[i] := (cell_of hb1 i).trans (Array.getElem?_eq_getElem hi); have xf := free_of hb1 i; have H1 := Lib.hid h1; clear h1 hb1)
  go_end0
  exact ⟨rfl, Put1.of H1.out m1 hne hlt⟩
set_option maxHeartbeats 1000000 in
theorem pu16_r (bp br bx i : Nat) (F : Nat → Prop) (out : List UInt8) (lg wr : Bool) (r : Rd) (cs : Array Value) (T : TypeId) (w : World) (h : PenAt w F bp 1 out br lg wr) (hb : w.heap[bx]? = some (.cells cs T (0, 0))) (hi : i < cs.size) (hne : bx ≠ br) (hr : w.heap[br]? = some (rdO r)) (hs : r.s.size ≤ maxLen) (hat : r.at_ ≤ r.s.size) :
    Calls Tryz.prog 95 #[.pointer (some ⟨bp, 0, none⟩), .pointer (some ⟨bx, i, none⟩)] w fun e w' => e = .returned (.tuple #[]) ∧ Put1 w w' br bx i (.int .u16 (r.num 2).1) (r.num 2).2 := by
  obtain ⟨_, c3, _, _, _, _⟩ := h.cells
  have hO := fun wf => on_pu16_r bp br bx i F out lg wr r cs T wf w h hb hi hne hr hs hat
  clear h hb hr hs hat
  go_enter Tryz.func95, Tryz.ntmps95
  go_wp2_with fail
  refine (hO _).mono ?_
  rintro e w2 ⟨rfl, hp⟩
  go_wp2
  go_end0
  exact ⟨rfl, hp⟩
set_option maxHeartbeats 1000000 in
theorem on_pu32_r (bp br bx i : Nat) (F : Nat → Prop) (out : List UInt8) (lg wr : Bool) (r : Rd) (cs : Array Value) (T : TypeId) (wf : Value) (w : World) (h : PenAt w F bp 1 out br lg wr) (hb : w.heap[bx]? = some (.cells cs T (0, 0))) (hi : i < cs.size) (hne : bx ≠ br) (hr : w.heap[br]? = some (rdO r)) (hs : r.s.size ≤ maxLen) (hat : r.at_ ≤ r.s.size) :
    Calls Tryz.prog 112 #[.pointer (some ⟨bp, 0, none⟩), .pointer (some ⟨bx, i, none⟩), wf, .func (.func 23) #[.pointer (some ⟨br, 0, none⟩)] #[]] w fun e w' => e = .returned (.tuple #[]) ∧ Put1 w w' br bx i (.int .u32 (r.num 4).1) (r.num 4).2 := by
  obtain ⟨c0, _, _, _, _, _⟩ := h.cells
  have hU := U32_any br r w hr hs hat
  have hlt := lt_of hb
  have HB := Lib.hid hb
  clear h hb hr hs hat
  go_enter Tryz.func112, Tryz.ntmps112
  go_wp2_with (go_at_call 23; refine hU.mono ?_; rintro e w1 ⟨rfl, h1, m1⟩; have hb1 := (m1.block bx hlt hne).trans HB.out; have x0 : w1.cell? ⟨bx, i, none⟩ = some cs[i] := (cell_of hb1 i).trans (Array.getElem?_eq_getElem hi); have xf := free_of hb1 i; have H1 := Lib.hid h1; clear h1 hb1)
  go_end0
  exact ⟨rfl, Put1.of H1.out m1 hne hlt⟩
set_option maxHeartbeats 1000000 in
theorem pu32_r (bp br bx i : Nat) (F : Nat → Prop) (out : List UInt8) (lg wr : Bool) (r : Rd) (cs : Array Value) (T : TypeId) (w : World) (h : PenAt w F bp 1 out br lg wr) (hb : w.heap[bx]? = some (.cells cs T (0, 0))) (hi : i < cs.size) (hne : bx ≠ br) (hr : w.heap[br]? = some (rdO r)) (hs : r.s.size ≤ maxLen) (hat : r.at_ ≤ r.s.size) :
    Calls Tryz.prog 92 #[.pointer (some ⟨bp, 0, none⟩), .pointer (some ⟨bx, i, none⟩)] w fun e w' => e = .returned (.tuple #[]) ∧ Put1 w w' br bx i (.int .u32 (r.num 4).1) (r.num 4).2 := by
  obtain ⟨_, c3, _, _, _, _⟩ := h.cells
  have hO := fun wf => on_pu32_r bp br bx i F out lg wr r cs T wf w h hb hi hne hr hs hat
  clear h hb hr hs hat
  go_enter Tryz.func92, Tryz.ntmps92
  go_wp2_with fail
  refine (hO _).mono ?_
  rintro e w2 ⟨rfl, hp⟩
  go_wp2
  go_end0
  exact ⟨rfl, hp⟩
set_option maxHeartbeats 1000000 in
theorem on_pu64_r (bp br bx i : Nat) (F : Nat → Prop) (out : List UInt8) (lg wr : Bool) (r : Rd) (cs : Array Value) (T : TypeId) (wf : Value) (w : World) (h : PenAt w F bp 1 out br lg wr) (hb : w.heap[bx]? = some (.cells cs T (0, 0))) (hi : i < cs.size) (hne : bx ≠ br) (hr : w.heap[br]? = some (rdO r)) (hs : r.s.size ≤ maxLen) (hat : r.at_ ≤ r.s.size) :
    Calls Tryz.prog 119 #[.pointer (some ⟨bp, 0, none⟩), .pointer (some ⟨bx, i, none⟩), wf, .func (.func 121) #[.pointer (some ⟨br, 0, none⟩)] #[]] w fun e w' => e = .returned (.tuple #[]) ∧ Put1 w w' br bx i (.int .u64 (r.num 8).1) (r.num 8).2 := by
  obtain ⟨c0, _, _, _, _, _⟩ := h.cells
  have hU := U64_any br r w hr hs hat
  have hlt := lt_of hb
  have HB := Lib.hid hb
  clear h hb hr hs hat
  go_enter Tryz.func119, Tryz.ntmps119
  go_wp2_with (go_at_call 121; refine hU.mono ?_; rintro e w1 ⟨rfl, h1, m1⟩; have hb1 := (m1.block bx hlt hne).trans HB.out; have x0 : w1.cell? ⟨bx, i, none⟩ = some cs[i] := (cell_of hb1 i).trans (Array.getElem?_eq_getElem hi); have xf := free_of hb1 i; have H1 := Lib.hid h1; clear h1 hb1)
  go_end0
  exact ⟨rfl, Put1.of H1.out m1 hne hlt⟩
set_option maxHeartbeats 1000000 in
theorem pu64_r (bp br bx i : Nat) (F : Nat → Prop) (out : List UInt8) (lg wr : Bool) (r : Rd) (cs : Array Value) (T : TypeId) (w : World) (h : PenAt w F bp 1 out br lg wr) (hb : w.heap[bx]? = some (.cells cs T (0, 0))) (hi : i < cs.size) (hne : bx ≠ br) (hr : w.heap[br]? = some (rdO r)) (hs : r.s.size ≤ maxLen) (hat : r.at_ ≤ r.s.size) :
    Calls Tryz.prog 99 #[.pointer (some ⟨bp, 0, none⟩), .pointer (some ⟨bx, i, none⟩)] w fun e w' => e = .returned (.tuple #[]) ∧ Put1 w w' br bx i (.int .u64 (r.num 8).1) (r.num 8).2 := by
  obtain ⟨_, c3, _, _, _, _⟩ := h.cells
  have hO := fun wf => on_pu64_r bp br bx i F out lg wr r cs T wf w h hb hi hne hr hs hat
  clear h hb hr hs hat
  go_enter Tryz.func99, Tryz.ntmps99
  go_wp2_with fail
  refine (hO _).mono ?_
  rintro e w2 ⟨rfl, hp⟩
  go_wp2
  go_end0
  exact ⟨rfl, hp⟩
set_option maxHeartbeats 1000000 in
theorem on_text_r (bp br bx i bb : Nat) (F : Nat → Prop) (out : List UInt8) (lg wr : Bool) (r : Rd) (cs : Array Value) (T : TypeId) (wf : Value) (w : World) (h : PenAt w F bp 1 out br lg wr) (hc : w.cell? ⟨bb, 0, none⟩ = some (.pointer (some ⟨bp, 0, none⟩))) (hbb : bb ≠ br) (hbp : bp ≠ br) (hb : w.heap[bx]? = some (.cells cs T (0, 0))) (hi : i < cs.size) (hne : bx ≠ br) (hr : w.heap[br]? = some (rdO r)) (hs : r.s.size ≤ maxLen) (hat : r.at_ ≤ r.s.size) :
    Calls Tryz.prog 113 #[.pointer (some ⟨bp, 0, none⟩), .pointer (some ⟨bx, i, none⟩), wf, .func (.func 116) #[.pointer (some ⟨br, 0, none⟩)] #[]] w fun e w' => e = .returned (.tuple #[]) ∧ Put1 w w' br bx i (.string (r.text).1) (r.text).2 := by
  obtain ⟨c0, _, _, _, _, _⟩ := h.cells
  have hU := text_any br r w hr hs hat
  have hlt := lt_of hb
  have HB := Lib.hid hb
  clear h hb hr hs hat hc
  go_enter Tryz.func113, Tryz.ntmps113
  go_wp2_with fail
  refine hU.mono ?_
  rintro e w1 ⟨rfl, h1, m1⟩
  have hb1 := (m1.block bx hlt hne).trans HB.out
  have x0 : w1.cell? ⟨bx, i, none⟩ = some cs[i] := (cell_of hb1 i).trans (Array.getElem?_eq_getElem hi)
  have xf := free_of hb1 i
  have H1 := Lib.hid h1
  clear h1 hb1 hU
  go_wp2
  go_end0
  exact ⟨rfl, Put1.of H1.out m1 hne hlt⟩
theorem Mod.off {S : Nat → Prop} {U V : World} (hm : Mod S U V) {b i : Nat} {v : Value} (hb : ¬ S b) (h : U.cell? ⟨b, i, none⟩ = some v) : V.cell? ⟨b, i, none⟩ = some v := keepF hm hb h
set_option maxHeartbeats 1000000 in
theorem data2_r (bp br bb : Nat) (F : Nat → Prop) (out : List UInt8) (lg wr : Bool) (r : Rd) (w : World) (h : PenAt w F bp 1 out br lg wr) (hc : w.cell? ⟨bb, 0, none⟩ = some (.pointer (some ⟨bp, 0, none⟩))) (hbb : bb ≠ br) (hbp : bp ≠ br) (hr : w.heap[br]? = some (rdO r)) (hs : r.s.size ≤ maxLen) (hat : r.at_ ≤ r.s.size) :
    Calls Tryz.prog 123 #[.pointer (some ⟨bb, 0, none⟩)] w fun e w' => e = .returned (.string (rdData r).1) ∧ w'.heap[br]? = some (rdO (rdData r).2) ∧ Mod (· = br) w w' := by
  obtain ⟨_, c3, _, _, _, _⟩ := h.cells
  have hU := U32_any br r w.drew hr hs hat
  have hB := fun U (hU : U.heap[br]? = some (rdO (r.num 4).2)) => bytes_any br (r.num 4).2 ((r.num 4).1 : Nat) U hU (by rw [Rd.num_s]; exact hs) (Rd.num_at r 4 hat)
  have hlt : (r.num 4).1 < 4294967296 := Rd.num_lt r 4
  have hcd : w.drew.cell? ⟨bb, 0, none⟩ = some (.pointer (some ⟨bp, 0, none⟩)) := hc
  have c3d : w.drew.cell? ⟨bp, 3, none⟩ = some (.pointer (some ⟨br, 0, none⟩)) := c3
  clear h hr hs hat
  have HV : Hid (rdData r = (r.num 4).2.bytes ((r.num 4).1 : Nat)) := rfl
  generalize r.num 4 = y at *
  have hw : IntKind.i64.wrap (y.1 : Int) = y.1 := by rw [IntKind.wrap_i64]; omega
  go_enter Tryz.func123, Tryz.ntmps123
  go_wp2
  refine wp_onlyN ?_
  go_region_held_law (fun w' => w'.cell? ⟨bb, 0, none⟩ = some (.pointer (some ⟨bp, 0, none⟩)) ∧ w'.cell? ⟨bp, 3, none⟩ = some (.pointer (some ⟨br, 0, none⟩))) (first | exact ⟨Mod.off m2 hbb (Mod.off m1 hbb hcd), Mod.off m2 hbp (Mod.off m1 hbp c3d)⟩ | exact ⟨Mod.off m1 hbb hcd, Mod.off m1 hbp c3d⟩ | exact ⟨hcd, c3d⟩) (first
    | (go_at_call 23; refine hU.mono ?_; rintro e w1 ⟨rfl, h1, m1⟩)
    | (go_at_call 91; refine (hB _ h1).mono ?_; rintro e w2 ⟨rfl, h2, m2⟩))
  all_goals refine onlyN_out ?_
  go_wp2
  go_ret
  exact ⟨by rw [HV.out]; rfl, by rw [HV.out]; exact h2, m1.ofDrew.trans m2⟩
end Go.Proofs.YtklpopmjpgdjnaaGreatDoor
