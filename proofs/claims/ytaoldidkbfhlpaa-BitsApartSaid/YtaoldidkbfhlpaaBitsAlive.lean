/- What the bits' statements ask besides: a small known run. -/
import Derived.Test.YtaoldidkbfhlpaaBitsMore
namespace Go.Proofs.Ytaoldidkbfhlpaa
open Go.RowKit

def T0 : Nat → Bool := fun _ => false
theorem al1 : turnE 10 T0 1 1 false = 0 := by decide +kernel
theorem al1t : turnT 10 T0 1 1 false = putN T0 1 1 true := by unfold turnT; rw [al1]; rfl
def T1 : Nat → Bool := putN T0 1 1 true
theorem al2 : takeR 10 T1 1 = (2, 0, putN T1 2 2 true) := by
  rw [show (1 : Int) = ((1 : Nat) : Int) from rfl]
  exact takeR_some 10 T1 1 (by decide) ⟨2, by decide⟩ (by decide +kernel)
def T2 : Nat → Bool := putN T1 2 2 true
theorem al3 : takeR 10 T2 0 = (0, 0, putN T2 0 1 true) := by
  rw [show (0 : Int) = ((0 : Nat) : Int) from rfl]
  exact takeR_some 10 T2 0 (by decide) ⟨0, by decide⟩ (by decide +kernel)
def T3 : Nat → Bool := putN T2 0 1 true
theorem al4 : takeR 10 T3 3 = (0, 6, T3) := by
  rw [show (3 : Int) = ((3 : Nat) : Int) from rfl]
  exact takeR_none 10 T3 3 (by decide) (by decide +kernel)
theorem al5 : largK 10 T3 5 = 2 := by decide +kernel
theorem al6 : turnE 10 T3 2 2 true = 0 := by decide +kernel
theorem al6t : turnT 10 T3 2 2 true = putN T3 2 2 false := by unfold turnT; rw [al6]; rfl
def T4 : Nat → Bool := putN T3 2 2 false
theorem al7 : turnE 10 T4 2 1 true = 3 := by decide +kernel
theorem al7t : turnT 10 T4 2 1 true = T4 := by unfold turnT; rw [al7]; rfl
theorem al8 : bs (bytesT T4 ((10 + 7) / 8)) = ⟨#[3, 0]⟩ := by kernel_rfl

set_option maxHeartbeats 1000000 in
theorem alive_any (w : World) : Calls Try.prog 6 #[] w fun e w' => e = .returned (.bool true) ∧ Mod (fun _ => False) w w' := by
  obtain ⟨b, hb⟩ : ∃ b, w.heap.size + 1 = b := ⟨_, rfl⟩
  obtain ⟨g, hg⟩ : ∃ g, w.heap.size = g := ⟨_, rfl⟩
  have hn := new_any 10 w (by decide) (by decide)
  rw [hb] at hn
  have hgl : w.heap.size ≤ g := by omega
  go_enter Try.func6, Try.ntmps6
  go_wp2_with fail
  refine hn.mono ?_
  rintro e w0 ⟨rfl, h0, m0⟩
  rw [hg] at h0
  have H0 : Hid (BitsAt w0 b g 10 T0) := h0
  clear h0 hn hb hg
  go_wp2_with fail
  refine (mark_any b g 10 T0 1 1 _ H0.out (by decide) (by decide)).mono ?_
  rw [al1, al1t]
  rintro e w1 ⟨rfl, h1, m1⟩
  have H1 : Hid (BitsAt w1 b g 10 T1) := h1
  have mm1 := m0.trans' m1 (fun k hk e => by omega)
  clear h1
  go_wp2_with fail
  refine (Take_any b g 10 T1 1 _ H1.out).mono ?_
  rw [al2]
  rintro e w2 ⟨rfl, h2, m2⟩
  have H2 : Hid (BitsAt w2 b g 10 T2) := h2
  have mm2 := mm1.trans' m2 (fun k hk e => by omega)
  clear h2
  go_wp2_with fail
  refine (Take_any b g 10 T2 0 _ H2.out).mono ?_
  rw [al3]
  rintro e w3 ⟨rfl, h3, m3⟩
  have H3 : Hid (BitsAt w3 b g 10 T3) := h3
  have mm3 := mm2.trans' m3 (fun k hk e => by omega)
  clear h3
  go_wp2_with fail
  refine (Take_any b g 10 T3 3 _ H3.out).mono ?_
  rw [al4]
  rintro e w4 ⟨rfl, h4, m4⟩
  have H4 : Hid (BitsAt w4 b g 10 T3) := h4
  have mm4 := mm3.trans' m4 (fun k hk e => by omega)
  clear h4
  go_wp2_with fail
  refine (Largest_any b g 10 T3 _ H4.out).mono ?_
  rw [al5]
  rintro e w5 ⟨rfl, m5⟩
  have H5 : Hid (BitsAt w5 b g 10 T3) := H4.out.mod m5 (fun x => x) (fun x => x)
  have mm5 := mm4.trans m5
  go_wp2_with fail
  refine (give_any b g 10 T3 2 2 _ H5.out (by decide) (by decide)).mono ?_
  rw [al6, al6t]
  rintro e w6 ⟨rfl, h6, m6⟩
  have H6 : Hid (BitsAt w6 b g 10 T4) := h6
  have mm6 := mm5.trans' m6 (fun k hk e => by omega)
  clear h6
  go_wp2_with fail
  refine (give_any b g 10 T4 2 1 _ H6.out (by decide) (by decide)).mono ?_
  rw [al7, al7t]
  rintro e w7 ⟨rfl, h7, m7⟩
  have H7 : Hid (BitsAt w7 b g 10 T4) := h7
  have mm7 := mm6.trans' m7 (fun k hk e => by omega)
  clear h7
  go_wp2_with fail
  refine (Bytes_any b g 10 T4 _ H7.out).mono ?_
  rw [al8]
  rintro e w8 ⟨rfl, m8⟩
  have mm8 := mm7.trans m8
  go_wp2
  go_ret
  exact ⟨rfl, mm8⟩
end Go.Proofs.Ytaoldidkbfhlpaa
