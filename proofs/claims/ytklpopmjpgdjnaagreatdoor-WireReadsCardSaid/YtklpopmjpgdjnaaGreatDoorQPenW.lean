/- Package wire's pen, writing: numbers, texts, qids, data. -/
import Derived.Test.YtklpopmjpgdjnaaGreatDoorQPen
import Derived.Test.YtklpopmjpgdjnaaGreatDoorQGb
import Derived.Test.YtklpopmjpgdjnaaGreatDoorQGc
set_option linter.unusedVariables false
set_option linter.unusedSimpArgs false
namespace Go.Proofs.YtklpopmjpgdjnaaGreatDoor
open Go.RowKit

/-- what a call that writes with the pen leaves -/
def Pens (w w' : World) (F : Nat → Prop) (bp br : Nat) (o : Wr) (wr : Bool) : Prop := ∃ F', PenAt w' F' bp 0 o.1 br o.2 wr ∧ Mod F w w' ∧ Grows w F F'
theorem Pens.trans {w w1 w2 : World} {F F' : Nat → Prop} {bp br : Nat} {o : Wr} {wr : Bool} (m : Mod F w w1) (g : Grows w F F') (h : Pens w1 w2 F' bp br o wr) : Pens w w2 F bp br o wr := by
  obtain ⟨F2, h1, h2, h3⟩ := h
  exact ⟨F2, h1, m.grows g h2, g.trans h3 m.size⟩
theorem Pens.ahead {w w1 w2 : World} {F : Nat → Prop} {bp br : Nat} {o : Wr} {wr : Bool} (m : Mod (fun _ => False) w w1) (h : Pens w1 w2 F bp br o wr) : Pens w w2 F bp br o wr :=
  Pens.trans (m.mono fun _ _ x => x.elim) (Grows.refl _ _) h
set_option maxHeartbeats 1000000 in
theorem pwrite_any (bp br : Nat) (F : Nat → Prop) (o : Wr) (wr : Bool) (s : List UInt8) (w : World) (h : PenAt w F bp 0 o.1 br o.2 wr) (hs : s.length ≤ 70368744177664) (ho : o.1.length ≤ 70368744177664) :
    Calls Tryz.prog 136 #[.pointer (some ⟨bp, 0, none⟩), .string (bs s)] w fun e w' => e = .returned (.tuple #[]) ∧ Pens w w' F bp br (wrB o s) wr := by
  obtain ⟨out, lg⟩ := o
  have h : PenAt w F bp 0 out br lg wr := h
  have ho : out.length ≤ 70368744177664 := ho
  have hL := plen_any bp br F 0 out lg wr w h
  have hsz : (bs s).size = s.length := bs_size s
  obtain ⟨_, _, c4, f4, _, _⟩ := h.cells
  have H := Lib.hid h
  clear h
  by_cases h1 : 8192 < out.length + s.length
  · have t1 : decide (8192 < (out.length : Int) + (s.length : Int)) = true := by simp; omega
    have HV : Hid (wrB (out, lg) s = (out, true)) := if_pos h1
    go_enter Tryz.func136, Tryz.ntmps136
    go_wp2_with (go_at_call 40; refine hL.mono ?_; rintro e w1 ⟨rfl, rfl⟩)
    refine bodyPost_ret (results_none rfl _ _ _) rfl ?_
    rw [HV.out]
    obtain ⟨hp, hm⟩ := H.out.setLong true
    exact ⟨rfl, F, hp, hm, Grows.refl _ _⟩
  · have t1 : decide (8192 < (out.length : Int) + (s.length : Int)) = false := by simp; omega
    have HV : Hid (wrB (out, lg) s = (out ++ s, lg)) := if_neg h1
    have hW := pwrite_str bp br F 0 out lg wr (bs s) w H.out (by rw [hsz]; omega)
    clear H
    go_enter Tryz.func136, Tryz.ntmps136
    go_wp2_with (first | (go_at_call 40; refine hL.mono ?_; rintro e w1 ⟨rfl, rfl⟩) | (go_at_call 90; refine hW.mono ?_; rintro e w2 ⟨rfl, F', g1, q1, k1⟩))
    go_end0
    rw [HV.out]
    exact ⟨rfl, F', g1, q1, k1⟩
theorem wrB_le (o : Wr) (s : List UInt8) (h : o.1.length ≤ 8192) : (wrB o s).1.length ≤ 8192 := by
  unfold wrB
  split
  · exact h
  · simp only [List.length_append]; omega
set_option maxHeartbeats 1000000 in
theorem on_pu8_w (bp br bx i x : Nat) (F : Nat → Prop) (o : Wr) (wr : Bool) (rf : Value) (w : World) (h : PenAt w F bp 0 o.1 br o.2 wr) (hx : w.cell? ⟨bx, i, none⟩ = some (.int .u8 x)) (hb : x < 256) (ho : o.1.length ≤ 8192) :
    Calls Tryz.prog 118 #[.pointer (some ⟨bp, 0, none⟩), .pointer (some ⟨bx, i, none⟩), .func (.func 42) #[] #[], rf] w fun e w' => e = .returned (.tuple #[]) ∧ Pens w w' F bp br (wrB o (leBytes 1 x)) wr := by
  obtain ⟨c0, c3, _, _, _, _⟩ := h.cells
  have hU := wU8 x x (by omega) w
  have hW := fun U hU => pwrite_any bp br F o wr (leBytes 1 x) U hU (by rw [leBytes_length]; omega) (by omega)
  have H := Lib.hid h
  clear h hb
  go_enter Tryz.func118, Tryz.ntmps118
  go_wp2_with (first | (go_at_call 42; refine hU.mono ?_; rintro e w1 ⟨rfl, m1⟩; have hW' := hW _ (H.out.mod m1 (fun _ x => x.elim))) | (go_at_call 136; refine hW'.mono ?_; rintro e w2 ⟨rfl, hp⟩))
  go_end0
  exact ⟨rfl, hp.ahead m1⟩
set_option maxHeartbeats 1000000 in
theorem pu8_w (bp br bx i x : Nat) (F : Nat → Prop) (o : Wr) (wr : Bool) (w : World) (h : PenAt w F bp 0 o.1 br o.2 wr) (hx : w.cell? ⟨bx, i, none⟩ = some (.int .u8 x)) (hb : x < 256) (ho : o.1.length ≤ 8192) :
    Calls Tryz.prog 98 #[.pointer (some ⟨bp, 0, none⟩), .pointer (some ⟨bx, i, none⟩)] w fun e w' => e = .returned (.tuple #[]) ∧ Pens w w' F bp br (wrB o (leBytes 1 x)) wr := by
  obtain ⟨c0, c3, _, _, _, _⟩ := h.cells
  have hO := fun rf => on_pu8_w bp br bx i x F o wr rf w h hx hb ho
  clear h hb
  go_enter Tryz.func98, Tryz.ntmps98
  go_wp2_with fail
  refine (hO _).mono ?_
  rintro e w2 ⟨rfl, hp⟩
  go_wp2
  go_end0
  exact ⟨rfl, hp⟩
set_option maxHeartbeats 1000000 in
theorem on_pu16_w (bp br bx i x : Nat) (F : Nat → Prop) (o : Wr) (wr : Bool) (rf : Value) (w : World) (h : PenAt w F bp 0 o.1 br o.2 wr) (hx : w.cell? ⟨bx, i, none⟩ = some (.int .u16 x)) (hb : x < 65536) (ho : o.1.length ≤ 8192) :
    Calls Tryz.prog 117 #[.pointer (some ⟨bp, 0, none⟩), .pointer (some ⟨bx, i, none⟩), .func (.func 43) #[] #[], rf] w fun e w' => e = .returned (.tuple #[]) ∧ Pens w w' F bp br (wrB o (leBytes 2 x)) wr := by
  obtain ⟨c0, c3, _, _, _, _⟩ := h.cells
  have hU := wU16 x x (by omega) w
  have hW := fun U hU => pwrite_any bp br F o wr (leBytes 2 x) U hU (by rw [leBytes_length]; omega) (by omega)
  have H := Lib.hid h
  clear h hb
  go_enter Tryz.func117, Tryz.ntmps117
  go_wp2_with (first | (go_at_call 43; refine hU.mono ?_; rintro e w1 ⟨rfl, m1⟩; have hW' := hW _ (H.out.mod m1 (fun _ x => x.elim))) | (go_at_call 136; refine hW'.mono ?_; rintro e w2 ⟨rfl, hp⟩))
  go_end0
  exact ⟨rfl, hp.ahead m1⟩
set_option maxHeartbeats 1000000 in
theorem pu16_w (bp br bx i x : Nat) (F : Nat → Prop) (o : Wr) (wr : Bool) (w : World) (h : PenAt w F bp 0 o.1 br o.2 wr) (hx : w.cell? ⟨bx, i, none⟩ = some (.int .u16 x)) (hb : x < 65536) (ho : o.1.length ≤ 8192) :
    Calls Tryz.prog 95 #[.pointer (some ⟨bp, 0, none⟩), .pointer (some ⟨bx, i, none⟩)] w fun e w' => e = .returned (.tuple #[]) ∧ Pens w w' F bp br (wrB o (leBytes 2 x)) wr := by
  obtain ⟨c0, c3, _, _, _, _⟩ := h.cells
  have hO := fun rf => on_pu16_w bp br bx i x F o wr rf w h hx hb ho
  clear h hb
  go_enter Tryz.func95, Tryz.ntmps95
  go_wp2_with fail
  refine (hO _).mono ?_
  rintro e w2 ⟨rfl, hp⟩
  go_wp2
  go_end0
  exact ⟨rfl, hp⟩
set_option maxHeartbeats 1000000 in
theorem on_pu32_w (bp br bx i x : Nat) (F : Nat → Prop) (o : Wr) (wr : Bool) (rf : Value) (w : World) (h : PenAt w F bp 0 o.1 br o.2 wr) (hx : w.cell? ⟨bx, i, none⟩ = some (.int .u32 x)) (hb : x < 4294967296) (ho : o.1.length ≤ 8192) :
    Calls Tryz.prog 112 #[.pointer (some ⟨bp, 0, none⟩), .pointer (some ⟨bx, i, none⟩), .func (.func 41) #[] #[], rf] w fun e w' => e = .returned (.tuple #[]) ∧ Pens w w' F bp br (wrB o (leBytes 4 x)) wr := by
  obtain ⟨c0, c3, _, _, _, _⟩ := h.cells
  have hU := wU32 x x (by omega) w
  have hW := fun U hU => pwrite_any bp br F o wr (leBytes 4 x) U hU (by rw [leBytes_length]; omega) (by omega)
  have H := Lib.hid h
  clear h hb
  go_enter Tryz.func112, Tryz.ntmps112
  go_wp2_with (first | (go_at_call 41; refine hU.mono ?_; rintro e w1 ⟨rfl, m1⟩; have hW' := hW _ (H.out.mod m1 (fun _ x => x.elim))) | (go_at_call 136; refine hW'.mono ?_; rintro e w2 ⟨rfl, hp⟩))
  go_end0
  exact ⟨rfl, hp.ahead m1⟩
set_option maxHeartbeats 1000000 in
theorem pu32_w (bp br bx i x : Nat) (F : Nat → Prop) (o : Wr) (wr : Bool) (w : World) (h : PenAt w F bp 0 o.1 br o.2 wr) (hx : w.cell? ⟨bx, i, none⟩ = some (.int .u32 x)) (hb : x < 4294967296) (ho : o.1.length ≤ 8192) :
    Calls Tryz.prog 92 #[.pointer (some ⟨bp, 0, none⟩), .pointer (some ⟨bx, i, none⟩)] w fun e w' => e = .returned (.tuple #[]) ∧ Pens w w' F bp br (wrB o (leBytes 4 x)) wr := by
  obtain ⟨c0, c3, _, _, _, _⟩ := h.cells
  have hO := fun rf => on_pu32_w bp br bx i x F o wr rf w h hx hb ho
  clear h hb
  go_enter Tryz.func92, Tryz.ntmps92
  go_wp2_with fail
  refine (hO _).mono ?_
  rintro e w2 ⟨rfl, hp⟩
  go_wp2
  go_end0
  exact ⟨rfl, hp⟩
set_option maxHeartbeats 1000000 in
theorem on_pu64_w (bp br bx i x : Nat) (F : Nat → Prop) (o : Wr) (wr : Bool) (rf : Value) (w : World) (h : PenAt w F bp 0 o.1 br o.2 wr) (hx : w.cell? ⟨bx, i, none⟩ = some (.int .u64 x)) (hb : x < 18446744073709551616) (ho : o.1.length ≤ 8192) :
    Calls Tryz.prog 119 #[.pointer (some ⟨bp, 0, none⟩), .pointer (some ⟨bx, i, none⟩), .func (.func 120) #[] #[], rf] w fun e w' => e = .returned (.tuple #[]) ∧ Pens w w' F bp br (wrB o (leBytes 8 x)) wr := by
  obtain ⟨c0, c3, _, _, _, _⟩ := h.cells
  have hU := wU64 x x (by omega) w
  have hW := fun U hU => pwrite_any bp br F o wr (leBytes 8 x) U hU (by rw [leBytes_length]; omega) (by omega)
  have H := Lib.hid h
  clear h hb
  go_enter Tryz.func119, Tryz.ntmps119
  go_wp2_with (first | (go_at_call 120; refine hU.mono ?_; rintro e w1 ⟨rfl, m1⟩; have hW' := hW _ (H.out.mod m1 (fun _ x => x.elim))) | (go_at_call 136; refine hW'.mono ?_; rintro e w2 ⟨rfl, hp⟩))
  go_end0
  exact ⟨rfl, hp.ahead m1⟩
set_option maxHeartbeats 1000000 in
theorem pu64_w (bp br bx i x : Nat) (F : Nat → Prop) (o : Wr) (wr : Bool) (w : World) (h : PenAt w F bp 0 o.1 br o.2 wr) (hx : w.cell? ⟨bx, i, none⟩ = some (.int .u64 x)) (hb : x < 18446744073709551616) (ho : o.1.length ≤ 8192) :
    Calls Tryz.prog 99 #[.pointer (some ⟨bp, 0, none⟩), .pointer (some ⟨bx, i, none⟩)] w fun e w' => e = .returned (.tuple #[]) ∧ Pens w w' F bp br (wrB o (leBytes 8 x)) wr := by
  obtain ⟨c0, c3, _, _, _, _⟩ := h.cells
  have hO := fun rf => on_pu64_w bp br bx i x F o wr rf w h hx hb ho
  clear h hb
  go_enter Tryz.func99, Tryz.ntmps99
  go_wp2_with fail
  refine (hO _).mono ?_
  rintro e w2 ⟨rfl, hp⟩
  go_wp2
  go_end0
  exact ⟨rfl, hp⟩
end Go.Proofs.YtklpopmjpgdjnaaGreatDoor
