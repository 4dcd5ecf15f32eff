/- Package dir's free, slot, with. -/
import Derived.Test.YtfkmfllhlhefdaaDoorShelf
import Derived.Test.YtfkmfllhlhefdaaDoorPDir
import Derived.Test.YtfkmfllhlhefdaaDoorPut
import Derived.Test.YtfkmfllhlhefdaaDoorRegionHold
namespace Go.Proofs.YtfkmfllhlhefdaaDoor
open Go.RowKit

theorem free_any (w : World) : Calls Tryd.prog 35 #[] w fun e w' => e = .returned (.string freeB) ∧ Mod (fun _ => False) w w' := by
  have hR := fun U => Tryd.strings_Repeat_main (bs [0]) 64 U (by decide) (by decide) (by decide) (by decide)
  rw [show ((64 : Nat) : Int) = 64 from rfl] at hR
  have hv : (⟨(Lib.repeatL (bs [0]).data.toList 64).toArray⟩ : ByteArray) = freeB := by decide
  rw [hv] at hR
  clear hv
  unfold bs at hR
  generalize freeB = fb at *
  go_enter Tryd.func35, Tryd.ntmps35
  go_wp2_with fail
  refine (hR _).mono ?_
  rintro e w1 ⟨rfl, m1⟩
  go_wp2
  go_ret
  exact ⟨rfl, Mod.of_below m1⟩

theorem slot_eq (p : Nat) (n : ByteArray) (h : n.size ≤ 55) : bs (leBytes 8 p) ++ bs (leBytes 1 n.size) ++ n ++ freeB.extract (9 + n.size) 64 = slotB p n := by
  have e : freeB.extract (9 + n.size) 64 = bs (zeros (55 - n.size)) := by
    apply ByteArray.ext
    rw [ByteArray.data_extract]
    apply Array.ext'
    rw [Array.toList_extract]
    show (List.take (64 - (9 + n.size)) (List.drop (9 + n.size) (List.replicate 64 0))) = List.replicate (55 - n.size) 0
    rw [List.drop_replicate, List.take_replicate]
    congr 1
    omega
  rw [e, slotB, slotL, bs_cat, bs_cat, bs_cat, bs_of]
  simp only [ByteArray.append_assoc]

set_option maxHeartbeats 1000000 in
set_option maxRecDepth 100000 in
theorem slot_any (p : Nat) (n : ByteArray) (w : World) (hp : p < 18446744073709551616) (hn : n.size ≤ 55) : Calls Tryd.prog 32 #[.int .u64 p, .string n] w fun e w' => e = .returned (.string (slotB p n)) ∧ Mod (fun _ => False) w w' := by
  have hU := fun U => wU64_x p U hp
  have h8 := fun U => wU8 n.size (n.size : Int) (by omega) U
  have hw : IntKind.u8.wrap (n.size : Int) = n.size := by rw [IntKind.wrap_u8]; omega
  have hF := free_any
  have hz := freeB_size
  have hE := slot_eq p n hn
  obtain ⟨a, ha⟩ : ∃ a, bs (leBytes 8 p) = a := ⟨_, rfl⟩
  obtain ⟨b, hb⟩ : ∃ b, bs (leBytes 1 n.size) = b := ⟨_, rfl⟩
  have hsa : a.size = 8 := by rw [← ha, bs_size, leBytes_length]
  have hsb : b.size = 1 := by rw [← hb, bs_size, leBytes_length]
  have hap : ∀ x y : ByteArray, (x ++ y).size = x.size + y.size := fun x y => ByteArray.size_append
  rw [ha] at hU hE
  rw [hb] at h8 hE
  generalize freeB = fb at *
  have HE := Lib.hid hE
  clear hE ha hb
  go_enter Tryd.func32, Tryd.ntmps32
  go_wp2_with fail
  refine (hU _).mono ?_
  rintro e w1 ⟨rfl, m1⟩
  go_wp2_with fail
  refine (h8 _).mono ?_
  rintro e w2 ⟨rfl, m2⟩
  go_wp2_with fail
  refine (hF _).mono ?_
  rintro e w3 ⟨rfl, m3⟩
  go_wp2
  go_ret
  exact ⟨by rw [HE.out]; rfl, (m1.trans m2).trans m3⟩

set_option maxHeartbeats 1000000 in
set_option maxRecDepth 100000 in
theorem with_any (s x : ByteArray) (at_ : Nat) (w : World) (hs : s.size ≤ 1099511627776) (ha : at_ ≤ 1099511627776) (hx : x.size ≤ 1099511627776) (hin : at_ * 64 < s.size → at_ * 64 + 64 ≤ s.size) :
    Calls Tryd.prog 31 #[.string s, .int .i64 at_, .string x] w fun e w' => e = .returned (.string (withS s at_ x)) ∧ Mod (fun _ => False) w w' := by
  have hap : ∀ x y : ByteArray, (x ++ y).size = x.size + y.size := fun x y => ByteArray.size_append
  obtain ⟨k, hk⟩ : ∃ k, at_ * 64 = k := ⟨_, rfl⟩
  have hw1 : IntKind.i64.wrap ((at_ : Int) * 64) = k := by rw [IntKind.wrap_i64]; omega
  have hw2 : IntKind.i64.wrap ((at_ : Int) + 1) = ((at_ + 1 : Nat) : Int) := by rw [IntKind.wrap_i64]; omega
  have hw3 : IntKind.i64.wrap (((at_ + 1 : Nat) : Int) * 64) = ((k + 64 : Nat) : Int) := by rw [IntKind.wrap_i64]; omega
  rw [hk] at hin
  by_cases hc : s.size ≤ k
  · have HV : Hid (withS s at_ x = s ++ x) := by show _ = _; unfold withS; rw [if_pos (by omega)]
    have t1 : decide ((s.size : Int) ≤ (k : Int)) = true := by simp; omega
    clear hin
    go_enter Tryd.func31, Tryd.ntmps31
    go_wp2
    go_ret
    exact ⟨by rw [HV.out]; rfl, Mod.refl _ _⟩
  · have HV : Hid (withS s at_ x = s.extract 0 k ++ x ++ s.extract ((at_ + 1) * 64) s.size) := by show _ = _; unfold withS; rw [if_neg (by omega), Nat.add_mul, Nat.one_mul, hk]
    have hin := hin (by omega)
    have t1 : decide ((s.size : Int) ≤ (k : Int)) = false := by simp; omega
    have hz1 : (s.extract 0 k).size = k := by rw [ByteArray.size_extract]; omega
    have hz2 : (s.extract (k + 64) s.size).size = s.size - (k + 64) := by rw [ByteArray.size_extract]; omega
    have i1 : (k : Int) ≤ (s.size : Int) := by omega
    have i2 : ((k + 64 : Nat) : Int) ≤ (s.size : Int) := by omega
    have i3 : k ≤ s.size := by omega
    go_enter Tryd.func31, Tryd.ntmps31
    go_wp2
    go_quiet (fail)
    go_wp2
    go_ret
    exact ⟨by rw [HV.out]; rfl, (Mod.refl _ _).drewN _⟩
end Go.Proofs.YtfkmfllhlhefdaaDoor
