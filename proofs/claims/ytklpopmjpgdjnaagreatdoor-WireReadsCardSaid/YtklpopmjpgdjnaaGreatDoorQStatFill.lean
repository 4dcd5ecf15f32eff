/- fill[T]: a field, by a bound method of a reader. -/
import Derived.Test.YtklpopmjpgdjnaaGreatDoorQGb
import Derived.Test.YtklpopmjpgdjnaaGreatDoorQGa
set_option linter.unusedVariables false
set_option linter.unusedSimpArgs false
namespace Go.Proofs.YtklpopmjpgdjnaaGreatDoor
open Go.RowKit

set_option maxHeartbeats 400000 in
theorem fill_uint8 (b sb i : Nat) (r : Rd) (cs : Array Value) (e0 : TypeId) (w : World) (h : w.heap[b]? = some (rdO r)) (hs : r.s.size ≤ maxLen) (hat : r.at_ ≤ r.s.size)
    (hb : w.heap[sb]? = some (.cells cs e0 (0, 0))) (hi : i < cs.size) (hne : sb ≠ b) :
    Calls Tryz.prog 145 #[.pointer (some ⟨sb, i, none⟩), .func (.func 24) #[.pointer (some ⟨b, 0, none⟩)] #[]] w fun e w' => e = .returned (.tuple #[]) ∧ w'.heap[b]? = some (rdO (r.num 1).2) ∧ w'.heap[sb]? = some (.cells (cs.set! i (.int .u8 (r.num 1).1)) e0 (0, 0)) ∧ Mod (fun k => k = b ∨ k = sb) w w' := by
  go_enter Tryz.func145, Tryz.ntmps145
  go_wp2_with fail
  refine (U8_any b r _ h hs hat).mono ?_
  rintro e w1 ⟨rfl, h1, m1⟩
  have hb1 := (m1.block sb (lt_of hb) hne).trans hb
  have H1 := Lib.hid h1; clear h1
  obtain ⟨c0, hc0⟩ : ∃ c0, w1.cell? ⟨sb, i, none⟩ = some c0 := ⟨cs[i], by rw [cell_of hb1 i]; simp [hi]⟩
  have f0 : w1.frozen? ⟨sb, i, none⟩ = false := free_of hb1 i
  have HB1 := Lib.hid hb1; clear hb1
  go_wp2
  go_end0
  have m2 := (m1.mono (T := fun k => k = b ∨ k = sb) (fun k _ e => Or.inl e)).setCell (p := ⟨sb, i, none⟩) (Or.inl (Or.inr rfl)) (.int .u8 (r.num 1).1)
  exact ⟨rfl, by rw [Below.heap_setCell _ _ _ _ (fun e => hne e.symm)]; exact H1.out, heap_set HB1.out i _, m2⟩
set_option maxHeartbeats 400000 in
theorem fill_uint16 (b sb i : Nat) (r : Rd) (cs : Array Value) (e0 : TypeId) (w : World) (h : w.heap[b]? = some (rdO r)) (hs : r.s.size ≤ maxLen) (hat : r.at_ ≤ r.s.size)
    (hb : w.heap[sb]? = some (.cells cs e0 (0, 0))) (hi : i < cs.size) (hne : sb ≠ b) :
    Calls Tryz.prog 143 #[.pointer (some ⟨sb, i, none⟩), .func (.func 25) #[.pointer (some ⟨b, 0, none⟩)] #[]] w fun e w' => e = .returned (.tuple #[]) ∧ w'.heap[b]? = some (rdO (r.num 2).2) ∧ w'.heap[sb]? = some (.cells (cs.set! i (.int .u16 (r.num 2).1)) e0 (0, 0)) ∧ Mod (fun k => k = b ∨ k = sb) w w' := by
  go_enter Tryz.func143, Tryz.ntmps143
  go_wp2_with fail
  refine (U16_any b r _ h hs hat).mono ?_
  rintro e w1 ⟨rfl, h1, m1⟩
  have hb1 := (m1.block sb (lt_of hb) hne).trans hb
  have H1 := Lib.hid h1; clear h1
  obtain ⟨c0, hc0⟩ : ∃ c0, w1.cell? ⟨sb, i, none⟩ = some c0 := ⟨cs[i], by rw [cell_of hb1 i]; simp [hi]⟩
  have f0 : w1.frozen? ⟨sb, i, none⟩ = false := free_of hb1 i
  have HB1 := Lib.hid hb1; clear hb1
  go_wp2
  go_end0
  have m2 := (m1.mono (T := fun k => k = b ∨ k = sb) (fun k _ e => Or.inl e)).setCell (p := ⟨sb, i, none⟩) (Or.inl (Or.inr rfl)) (.int .u16 (r.num 2).1)
  exact ⟨rfl, by rw [Below.heap_setCell _ _ _ _ (fun e => hne e.symm)]; exact H1.out, heap_set HB1.out i _, m2⟩
set_option maxHeartbeats 400000 in
theorem fill_uint32 (b sb i : Nat) (r : Rd) (cs : Array Value) (e0 : TypeId) (w : World) (h : w.heap[b]? = some (rdO r)) (hs : r.s.size ≤ maxLen) (hat : r.at_ ≤ r.s.size)
    (hb : w.heap[sb]? = some (.cells cs e0 (0, 0))) (hi : i < cs.size) (hne : sb ≠ b) :
    Calls Tryz.prog 144 #[.pointer (some ⟨sb, i, none⟩), .func (.func 23) #[.pointer (some ⟨b, 0, none⟩)] #[]] w fun e w' => e = .returned (.tuple #[]) ∧ w'.heap[b]? = some (rdO (r.num 4).2) ∧ w'.heap[sb]? = some (.cells (cs.set! i (.int .u32 (r.num 4).1)) e0 (0, 0)) ∧ Mod (fun k => k = b ∨ k = sb) w w' := by
  go_enter Tryz.func144, Tryz.ntmps144
  go_wp2_with fail
  refine (U32_any b r _ h hs hat).mono ?_
  rintro e w1 ⟨rfl, h1, m1⟩
  have hb1 := (m1.block sb (lt_of hb) hne).trans hb
  have H1 := Lib.hid h1; clear h1
  obtain ⟨c0, hc0⟩ : ∃ c0, w1.cell? ⟨sb, i, none⟩ = some c0 := ⟨cs[i], by rw [cell_of hb1 i]; simp [hi]⟩
  have f0 : w1.frozen? ⟨sb, i, none⟩ = false := free_of hb1 i
  have HB1 := Lib.hid hb1; clear hb1
  go_wp2
  go_end0
  have m2 := (m1.mono (T := fun k => k = b ∨ k = sb) (fun k _ e => Or.inl e)).setCell (p := ⟨sb, i, none⟩) (Or.inl (Or.inr rfl)) (.int .u32 (r.num 4).1)
  exact ⟨rfl, by rw [Below.heap_setCell _ _ _ _ (fun e => hne e.symm)]; exact H1.out, heap_set HB1.out i _, m2⟩
set_option maxHeartbeats 400000 in
theorem fill_uint64 (b sb i : Nat) (r : Rd) (cs : Array Value) (e0 : TypeId) (w : World) (h : w.heap[b]? = some (rdO r)) (hs : r.s.size ≤ maxLen) (hat : r.at_ ≤ r.s.size)
    (hb : w.heap[sb]? = some (.cells cs e0 (0, 0))) (hi : i < cs.size) (hne : sb ≠ b) :
    Calls Tryz.prog 146 #[.pointer (some ⟨sb, i, none⟩), .func (.func 121) #[.pointer (some ⟨b, 0, none⟩)] #[]] w fun e w' => e = .returned (.tuple #[]) ∧ w'.heap[b]? = some (rdO (r.num 8).2) ∧ w'.heap[sb]? = some (.cells (cs.set! i (.int .u64 (r.num 8).1)) e0 (0, 0)) ∧ Mod (fun k => k = b ∨ k = sb) w w' := by
  go_enter Tryz.func146, Tryz.ntmps146
  go_wp2_with fail
  refine (U64_any b r _ h hs hat).mono ?_
  rintro e w1 ⟨rfl, h1, m1⟩
  have hb1 := (m1.block sb (lt_of hb) hne).trans hb
  have H1 := Lib.hid h1; clear h1
  obtain ⟨c0, hc0⟩ : ∃ c0, w1.cell? ⟨sb, i, none⟩ = some c0 := ⟨cs[i], by rw [cell_of hb1 i]; simp [hi]⟩
  have f0 : w1.frozen? ⟨sb, i, none⟩ = false := free_of hb1 i
  have HB1 := Lib.hid hb1; clear hb1
  go_wp2
  go_end0
  have m2 := (m1.mono (T := fun k => k = b ∨ k = sb) (fun k _ e => Or.inl e)).setCell (p := ⟨sb, i, none⟩) (Or.inl (Or.inr rfl)) (.int .u64 (r.num 8).1)
  exact ⟨rfl, by rw [Below.heap_setCell _ _ _ _ (fun e => hne e.symm)]; exact H1.out, heap_set HB1.out i _, m2⟩
set_option maxHeartbeats 400000 in
theorem fill_string (b sb i : Nat) (r : Rd) (cs : Array Value) (e0 : TypeId) (w : World) (h : w.heap[b]? = some (rdO r)) (hs : r.s.size ≤ maxLen) (hat : r.at_ ≤ r.s.size)
    (hb : w.heap[sb]? = some (.cells cs e0 (0, 0))) (hi : i < cs.size) (hne : sb ≠ b) :
    Calls Tryz.prog 147 #[.pointer (some ⟨sb, i, none⟩), .func (.func 116) #[.pointer (some ⟨b, 0, none⟩)] #[]] w fun e w' => e = .returned (.tuple #[]) ∧ w'.heap[b]? = some (rdO (r.text).2) ∧ w'.heap[sb]? = some (.cells (cs.set! i (.string (r.text).1)) e0 (0, 0)) ∧ Mod (fun k => k = b ∨ k = sb) w w' := by
  go_enter Tryz.func147, Tryz.ntmps147
  go_wp2_with fail
  refine (text_any b r _ h hs hat).mono ?_
  rintro e w1 ⟨rfl, h1, m1⟩
  have hb1 := (m1.block sb (lt_of hb) hne).trans hb
  have H1 := Lib.hid h1; clear h1
  obtain ⟨c0, hc0⟩ : ∃ c0, w1.cell? ⟨sb, i, none⟩ = some c0 := ⟨cs[i], by rw [cell_of hb1 i]; simp [hi]⟩
  have f0 : w1.frozen? ⟨sb, i, none⟩ = false := free_of hb1 i
  have HB1 := Lib.hid hb1; clear hb1
  go_wp2
  go_end0
  have m2 := (m1.mono (T := fun k => k = b ∨ k = sb) (fun k _ e => Or.inl e)).setCell (p := ⟨sb, i, none⟩) (Or.inl (Or.inr rfl)) (.string (r.text).1)
  exact ⟨rfl, by rw [Below.heap_setCell _ _ _ _ (fun e => hne e.symm)]; exact H1.out, heap_set HB1.out i _, m2⟩
end Go.Proofs.YtklpopmjpgdjnaaGreatDoor
