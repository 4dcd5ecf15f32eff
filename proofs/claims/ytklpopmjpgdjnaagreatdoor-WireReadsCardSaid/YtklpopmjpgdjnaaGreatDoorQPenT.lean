/- Package wire's pen, writing: texts, qids, data, stats. -/
import Derived.Test.YtklpopmjpgdjnaaGreatDoorQPenW
import Derived.Test.YtklpopmjpgdjnaaGreatDoorQStatEnc
import Derived.Test.YtklpopmjpgdjnaaGreatDoorQGc
set_option linter.unusedVariables false
set_option linter.unusedSimpArgs false
namespace Go.Proofs.YtklpopmjpgdjnaaGreatDoor
open Go.RowKit

theorem PenAt.in_ {U : World} {F : Nat → Prop} {bp br : Nat} {d : Int} {out : List UInt8} {lg wr : Bool} (h : PenAt U F bp d out br lg wr) : U.cell? ⟨bp, 3, none⟩ = some (.pointer (some ⟨br, 0, none⟩)) := h.cells.2.1
theorem keepF {U V : World} {F : Nat → Prop} (hm : Mod F U V) {b i : Nat} {v : Value} (hb : ¬ F b) (h : U.cell? ⟨b, i, none⟩ = some v) : V.cell? ⟨b, i, none⟩ = some v :=
  (World.cell?_of_block (a := ⟨b, i, none⟩) (hm.block _ (World.block_lt_of_cell? _ _ h) hb)).trans h
/-- code.Text, either way -/
def txW (s : ByteArray) : List UInt8 := if 65535 < s.size then [] else txt s
theorem txW_le (s : ByteArray) : (txW s).length ≤ 65537 := by
  unfold txW
  split
  · simp
  · rw [txt_length]; omega
set_option maxHeartbeats 1000000 in
theorem text1_w (bp br bb : Nat) (F : Nat → Prop) (o : Wr) (wr : Bool) (s : ByteArray) (w : World) (h : PenAt w F bp 0 o.1 br o.2 wr) (hc : w.cell? ⟨bb, 0, none⟩ = some (.pointer (some ⟨bp, 0, none⟩))) (hs : s.size ≤ 262144) :
    Calls Tryz.prog 114 #[.string s, .pointer (some ⟨bb, 0, none⟩)] w fun e w' => e = .returned (.string (bs (txW s))) ∧ PenAt w' F bp 0 o.1 br (o.2 || decide (65535 < s.size)) wr ∧ Mod F w w' := by
  obtain ⟨out, lg⟩ := o
  have h : PenAt w F bp 0 out br lg wr := h
  show Calls _ _ _ _ fun e w' => _ ∧ PenAt w' F bp 0 out br (lg || decide (65535 < s.size)) wr ∧ _
  by_cases hl : 65535 < s.size
  · have hT := text_long s w hs hl
    have HV : Hid (txW s = [] ∧ (lg || decide (65535 < s.size)) = true) := ⟨if_pos hl, by simp [hl]⟩
    clear hl
    go_enter Tryz.func114, Tryz.ntmps114
    go_wp2_with fail
    refine hT.mono ?_
    rintro e w1 ⟨rfl, m1⟩
    have h1 := h.mod m1 (fun _ x => x.elim)
    have hc1 := keepR m1 hc
    obtain ⟨_, _, c4, f4, _, _⟩ := h1.cells
    have H1 := Lib.hid h1
    clear h h1 hT hc
    cases lg
    all_goals
      go_wp2
      refine wp_region_then2 (k := 11) _ _ rfl rfl rfl (by kernel_rfl) (by kernel_rfl) (by kernel_rfl) ?_
      simp only [List.take_succ_cons, List.take_zero]
      repeat (go_big_quiet_step (fail))
      refine wpQuiet_nil ?_
      intro _ hw'
      obtain ⟨nq, hw''⟩ := hw'
      subst hw''
      intro K hK
      go_simp
      refine hK _ _ ?_; clear hK K
      go_wp2
      go_ret
      obtain ⟨hp, hm⟩ := (H1.out.mod ((Mod.refl (fun _ => False) _).drewN nq) (fun _ x => x.elim)).setLong true
      rw [HV.out.1, HV.out.2]
      exact ⟨rfl, hp, ((m1.mono (T := F) fun _ _ x => x.elim).drewN nq).trans hm⟩
  · have hT := text_short s w hl
    have HV : Hid (txW s = txt s ∧ (lg || decide (65535 < s.size)) = lg) := ⟨if_neg hl, by simp [hl]⟩
    clear hl
    go_enter Tryz.func114, Tryz.ntmps114
    go_wp2_with fail
    refine hT.mono ?_
    rintro e w1 ⟨rfl, m1⟩
    have h1 := h.mod m1 (fun _ x => x.elim)
    have hc1 := keepR m1 hc
    obtain ⟨_, _, c4, f4, _, _⟩ := h1.cells
    have H1 := Lib.hid h1
    clear h h1 hT hc
    cases lg
    all_goals
      go_wp2
      refine wp_region_then2 (k := 11) _ _ rfl rfl rfl (by kernel_rfl) (by kernel_rfl) (by kernel_rfl) ?_
      simp only [List.take_succ_cons, List.take_zero]
      repeat (go_big_quiet_step (fail))
      refine wpQuiet_nil ?_
      intro _ hw'
      obtain ⟨nq, hw''⟩ := hw'
      subst hw''
      intro K hK
      go_simp
      refine hK _ _ ?_; clear hK K
      go_wp2
      go_ret
      obtain ⟨hp, hm⟩ := (H1.out.mod ((Mod.refl (fun _ => False) _).drewN nq) (fun _ x => x.elim)).setLong _
      rw [HV.out.1, HV.out.2]
      exact ⟨rfl, hp, ((m1.mono (T := F) fun _ _ x => x.elim).drewN nq).trans hm⟩
theorem wrText_eq (o : Wr) (s : ByteArray) : wrB (o.1, o.2 || decide (65535 < s.size)) (txW s) = wrText o s := by
  unfold wrText txW
  by_cases h : 65535 < s.size
  · simp [h]
  · simp [h]
theorem wrText_le (o : Wr) (s : ByteArray) (h : o.1.length ≤ 8192) : (wrText o s).1.length ≤ 8192 := by
  rw [← wrText_eq]
  exact wrB_le _ _ h
set_option maxHeartbeats 1000000 in
theorem on_text_w (bp br bb bx i : Nat) (F : Nat → Prop) (o : Wr) (wr : Bool) (s : ByteArray) (rf : Value) (w : World) (h : PenAt w F bp 0 o.1 br o.2 wr) (hx : w.cell? ⟨bx, i, none⟩ = some (.string s)) (hc : w.cell? ⟨bb, 0, none⟩ = some (.pointer (some ⟨bp, 0, none⟩))) (hs : s.size ≤ 262144) (ho : o.1.length ≤ 8192) :
    Calls Tryz.prog 113 #[.pointer (some ⟨bp, 0, none⟩), .pointer (some ⟨bx, i, none⟩), .func (.func 114) #[] #[.pointer (some ⟨bb, 0, none⟩)], rf] w fun e w' => e = .returned (.tuple #[]) ∧ Pens w w' F bp br (wrText o s) wr := by
  obtain ⟨c0, c3, _, _, _, _⟩ := h.cells
  have hT := text1_w bp br bb F o wr s w h hc hs
  have hW := fun U hU => pwrite_any bp br F (o.1, o.2 || decide (65535 < s.size)) wr (txW s) U hU (by have := txW_le s; omega) (by show o.1.length ≤ _; omega)
  rw [wrText_eq] at hW
  clear h hc hs
  go_enter Tryz.func113, Tryz.ntmps113
  go_wp2_with (first | (go_at_call 114; refine hT.mono ?_; rintro e w1 ⟨rfl, h1, m1⟩; have hW' := hW _ h1) | (go_at_call 136; refine hW'.mono ?_; rintro e w2 ⟨rfl, hp⟩))
  go_end0
  exact ⟨rfl, hp.trans m1 (Grows.refl _ _)⟩
set_option maxHeartbeats 1000000 in
theorem ptext_w (bp br bx i : Nat) (F : Nat → Prop) (o : Wr) (wr : Bool) (s : ByteArray) (w : World) (h : PenAt w F bp 0 o.1 br o.2 wr) (hx : w.cell? ⟨bx, i, none⟩ = some (.string s)) (hs : s.size ≤ 262144) (ho : o.1.length ≤ 8192) :
    Calls Tryz.prog 93 #[.pointer (some ⟨bp, 0, none⟩), .pointer (some ⟨bx, i, none⟩)] w fun e w' => e = .returned (.tuple #[]) ∧ Pens w w' F bp br (wrText o s) wr := by
  obtain ⟨W, hW⟩ : ∃ W, w.alloc (.cells #[.pointer (some ⟨bp, 0, none⟩)] 63) = W := ⟨_, rfl⟩
  have m0 : Mod (fun _ => False) w W := by subst hW; exact (Mod.refl _ _).alloc _
  have hb : W.heap[w.heap.size]? = some (.cells #[.pointer (some ⟨bp, 0, none⟩)] 63 (0, 0)) := by subst hW; exact new_at _ _
  have hb0 : W.cell? ⟨w.heap.size, 0, none⟩ = some (.pointer (some ⟨bp, 0, none⟩)) := (cell_of hb 0).trans rfl
  have hW1 := h.mod m0 (fun _ x => x.elim)
  obtain ⟨_, c3, _, _, _, _⟩ := hW1.cells
  have hO := fun nq rf => on_text_w bp br w.heap.size bx i F o wr s rf (W.drewN nq) (hW1.mod ((Mod.refl (fun _ => False) W).drewN nq) (fun _ x => x.elim)) (keepR m0 hx) hb0 hs ho
  have M0 := Lib.hid m0
  clear h hx m0 hb hW1
  go_enter Tryz.func93, Tryz.ntmps93
  go_wp2
  refine wp_region_then2 (k := 8) _ _ rfl rfl rfl (by kernel_rfl) (by kernel_rfl) (by kernel_rfl) ?_
  simp only [List.take_succ_cons, List.take_zero]
  repeat (go_big_quiet_step (fail))
  refine wpQuiet_nil ?_
  intro _ hw'
  obtain ⟨nq, hw''⟩ := hw'
  subst hw''
  intro K hK
  go_simp
  refine (hO nq _).mono ?_
  rintro e w2 ⟨rfl, hp⟩
  refine hK _ _ ?_; clear hK K
  go_wp2
  go_end0
  exact ⟨rfl, hp.ahead (M0.out.drewN nq)⟩
set_option maxHeartbeats 1000000 in
theorem pqid_w (bp br bx i : Nat) (F : Nat → Prop) (o : Wr) (wr : Bool) (q : Qd) (w : World) (h : PenAt w F bp 0 o.1 br o.2 wr) (hq : q.Ok) (hF : ¬ F bx) (h0 : w.cell? ⟨bx, i, none⟩ = some (.int .u8 q.t)) (h1 : w.cell? ⟨bx, i + 1, none⟩ = some (.int .u32 q.v)) (h2 : w.cell? ⟨bx, i + 2, none⟩ = some (.int .u64 q.p)) (ho : o.1.length ≤ 8192) :
    Calls Tryz.prog 94 #[.pointer (some ⟨bp, 0, none⟩), .pointer (some ⟨bx, i, none⟩)] w fun e w' => e = .returned (.tuple #[]) ∧ Pens w w' F bp br (wrQid o q) wr := by
  have hbx : bx < w.heap.size := World.block_lt_of_cell? _ _ h0
  have hA := pu8_w bp br bx i q.t F o wr w h h0 hq.t ho
  have hB := fun W F' o' hp hc ho' => pu32_w bp br bx (i + 1) q.v F' o' wr W hp hc hq.v ho'
  have hC := fun W F' o' hp hc ho' => pu64_w bp br bx (i + 2) q.p F' o' wr W hp hc hq.p ho'
  clear h hq
  go_enter Tryz.func94, Tryz.ntmps94
  go_wp2_with fail
  refine hA.mono ?_
  rintro e w1 ⟨rfl, F1, p1, m1, g1⟩
  have hF1 : ¬ F1 bx := fun x => by rcases g1 bx x with y | y; exact hF y; omega
  have hB1 := hB _ _ _ p1 (keepF m1 hF h1) (wrB_le _ _ ho)
  have k2 := keepF m1 hF h2
  have hbx1 : bx < w1.heap.size := by have := m1.size; omega
  clear hA hB h0 h1 h2 p1
  go_wp2_with fail
  refine hB1.mono ?_
  rintro e w2 ⟨rfl, F2, p2, m2, g2⟩
  have hC2 := hC _ _ _ p2 (keepF m2 hF1 k2) (wrB_le _ _ (wrB_le _ _ ho))
  clear hB1 hC p2 k2
  go_wp2_with fail
  refine hC2.mono ?_
  rintro e w3 ⟨rfl, hp⟩
  clear hC2
  go_wp2
  go_end0
  exact ⟨rfl, Pens.trans m1 g1 (Pens.trans m2 g2 hp)⟩
set_option maxHeartbeats 1000000 in
theorem data1_w (s : ByteArray) (w : World) (hs : s.size ≤ 1073741824) :
    Calls Tryz.prog 122 #[.string s] w fun e w' => e = .returned (.string (bs (leBytes 4 s.size ++ s.data.toList))) ∧ Mod (fun _ => False) w w' := by
  have hU := fun X hX => wU32 s.size X hX w
  have hb : (bs (leBytes 4 s.size)).size = 4 := by rw [bs_size, leBytes_length]
  have HV : Hid (bs (leBytes 4 s.size ++ s.data.toList) = bs (leBytes 4 s.size) ++ s) := by show _ = _; rw [bs_cat, bs_of]
  go_enter Tryz.func122, Tryz.ntmps122
  go_wp2_with fail
  refine (hU _ (by omega)).mono ?_
  rintro e w1 ⟨rfl, m1⟩
  clear hU
  generalize bs (leBytes 4 s.size) = t at *
  go_wp2
  go_ret
  exact ⟨by rw [HV.out]; rfl, m1⟩
set_option maxHeartbeats 1000000 in
theorem on_data_w (bp br bx i : Nat) (F : Nat → Prop) (o : Wr) (wr : Bool) (s : ByteArray) (rf : Value) (w : World) (h : PenAt w F bp 0 o.1 br o.2 wr) (hx : w.cell? ⟨bx, i, none⟩ = some (.string s)) (hs : s.size ≤ 262144) (ho : o.1.length ≤ 8192) :
    Calls Tryz.prog 113 #[.pointer (some ⟨bp, 0, none⟩), .pointer (some ⟨bx, i, none⟩), .func (.func 122) #[] #[], rf] w fun e w' => e = .returned (.tuple #[]) ∧ Pens w w' F bp br (wrData o s) wr := by
  obtain ⟨c0, c3, _, _, _, _⟩ := h.cells
  have hT := data1_w s w (by omega)
  have hW := fun U hU => pwrite_any bp br F o wr (leBytes 4 s.size ++ s.data.toList) U hU (by rw [List.length_append, leBytes_length, Array.length_toList]; show 4 + s.size ≤ _; omega) (by omega)
  have H := Lib.hid h
  clear h hs
  go_enter Tryz.func113, Tryz.ntmps113
  go_wp2_with (first | (go_at_call 122; refine hT.mono ?_; rintro e w1 ⟨rfl, m1⟩; have hW' := hW _ (H.out.mod m1 (fun _ x => x.elim))) | (go_at_call 136; refine hW'.mono ?_; rintro e w2 ⟨rfl, hp⟩))
  go_end0
  exact ⟨rfl, hp.ahead m1⟩
set_option maxHeartbeats 1000000 in
theorem pdata_w (bp br bx i : Nat) (F : Nat → Prop) (o : Wr) (wr : Bool) (s : ByteArray) (w : World) (h : PenAt w F bp 0 o.1 br o.2 wr) (hx : w.cell? ⟨bx, i, none⟩ = some (.string s)) (hs : s.size ≤ 262144) (ho : o.1.length ≤ 8192) :
    Calls Tryz.prog 100 #[.pointer (some ⟨bp, 0, none⟩), .pointer (some ⟨bx, i, none⟩)] w fun e w' => e = .returned (.tuple #[]) ∧ Pens w w' F bp br (wrData o s) wr := by
  obtain ⟨W, hW⟩ : ∃ W, w.alloc (.cells #[.pointer (some ⟨bp, 0, none⟩)] 63) = W := ⟨_, rfl⟩
  have m0 : Mod (fun _ => False) w W := by subst hW; exact (Mod.refl _ _).alloc _
  have hb : W.heap[w.heap.size]? = some (.cells #[.pointer (some ⟨bp, 0, none⟩)] 63 (0, 0)) := by subst hW; exact new_at _ _
  have hb0 : W.cell? ⟨w.heap.size, 0, none⟩ = some (.pointer (some ⟨bp, 0, none⟩)) := (cell_of hb 0).trans rfl
  have hW1 := h.mod m0 (fun _ x => x.elim)
  have hO := fun rf => on_data_w bp br bx i F o wr s rf W hW1 (keepR m0 hx) hs ho
  have M0 := Lib.hid m0
  clear h hx m0 hb hW1
  go_enter Tryz.func100, Tryz.ntmps100
  go_wp2_with fail
  refine (hO _).mono ?_
  rintro e w2 ⟨rfl, hp⟩
  go_wp2
  go_end0
  exact ⟨rfl, hp.ahead M0.out⟩
end Go.Proofs.YtklpopmjpgdjnaaGreatDoor
