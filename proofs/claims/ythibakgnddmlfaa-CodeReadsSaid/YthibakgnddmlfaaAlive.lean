/- What package code's statements ask besides: a small known run. -/
import Derived.Test.YthibakgnddmlfaaUnpad
namespace Go.Proofs.Ythibakgnddmlfaa
open Go.RowKit

theorem al1 : Rd.num ⟨⟨#[1]⟩, 0, 0⟩ 2 = (0, ⟨⟨#[1]⟩, 0, 50⟩) := rfl
theorem al2 : wPad ⟨#[97, 98]⟩ 8 = (⟨#[2, 0, 0, 0, 97, 98, 0, 0]⟩, 0) := by kernel_rfl
theorem al3 : unpad ⟨#[2, 0, 0, 0, 97, 98, 0, 0]⟩ = (⟨#[97, 98]⟩, 0) := by kernel_rfl
theorem al4 : bs (leBytes 2 258) = ⟨#[2, 1]⟩ := by kernel_rfl
theorem mlen {n : Nat} (h : n ≤ 9223372036854775807) : n ≤ maxLen := by unfold maxLen; omega

set_option maxHeartbeats 1000000 in
theorem alive_any (w : World) : Calls Try.prog 11 #[] w fun e w' => e = .returned (.bool true) ∧ Mod (fun _ => False) w w' := by
  go_enter Try.func11, Try.ntmps11
  go_wp2_with fail
  refine (new_any _ _).mono ?_
  rintro e w0 ⟨rfl, rfl⟩
  have H0 : Hid ((w.alloc (rdO ⟨⟨#[1]⟩, 0, 0⟩)).heap[w.heap.size]? = some (rdO ⟨⟨#[1]⟩, 0, 0⟩)) := new_at _ _
  have m0 : Mod (fun _ => False) w (w.alloc (rdO ⟨⟨#[1]⟩, 0, 0⟩)) := (Mod.refl _ _).alloc _
  generalize w.alloc (rdO ⟨⟨#[1]⟩, 0, 0⟩) = w0 at *
  go_wp2_with fail
  refine (U16_any w.heap.size _ _ H0.out (by decide +kernel) (Nat.zero_le _)).mono ?_
  rw [al1]
  rintro e w1 ⟨rfl, h1, m1⟩
  have H1 := Lib.hid h1; clear h1
  have mm1 : Mod (fun _ => False) w w1 := m0.trans' m1 (fun k hk e => by omega)
  have hlt : w.heap.size < w1.heap.size := lt_of H1.out
  go_wp2_with fail
  refine (pad_w _ 8 _ (by decide +kernel) (by omega) (by omega)).mono ?_
  rw [al2]
  rintro e w2 ⟨rfl, m2⟩
  have H2 : Hid (w2.heap[w.heap.size]? = some (rdO ⟨⟨#[1]⟩, 0, 50⟩)) := (m2.block _ hlt (fun x => x)).trans H1.out
  go_wp2_with fail
  refine (unpad_w _ _ (by decide +kernel)).mono ?_
  rw [al3]
  rintro e w3 ⟨rfl, m3⟩
  have H3 : Hid (w3.heap[w.heap.size]? = some (rdO ⟨⟨#[1]⟩, 0, 50⟩)) := (m3.block _ (lt_of H2.out) (fun x => x)).trans H2.out
  go_wp2_with fail
  refine (fault_any w.heap.size _ _ H3.out).mono ?_
  rintro e w4 ⟨rfl, rfl⟩
  go_wp2_with fail
  refine (at_any w.heap.size _ _ H3.out).mono ?_
  rintro e w4 ⟨rfl, rfl⟩
  go_wp2_with fail
  refine (wU16 258 _ (by omega) _).mono ?_
  rw [al4]
  rintro e w5 ⟨rfl, m5⟩
  go_wp2
  go_ret
  exact ⟨rfl, ((mm1.trans m2).trans m3).trans m5⟩

end Go.Proofs.Ythibakgnddmlfaa
