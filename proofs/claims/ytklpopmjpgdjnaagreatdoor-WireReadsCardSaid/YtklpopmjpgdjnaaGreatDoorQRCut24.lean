/- The document's Cut: what package wire's gives. -/
import Derived.Test.YtklpopmjpgdjnaaGreatDoorQGi
import Derived.Test.YtklpopmjpgdjnaaGreatDoorQGr
set_option linter.unusedVariables false
set_option linter.unusedSimpArgs false
namespace Go.Proofs.YtklpopmjpgdjnaaGreatDoor
open Go.RowKit

set_option maxHeartbeats 1000000 in
set_option maxRecDepth 100000 in
theorem rcut_any (s : ByteArray) (most : Nat) (w : World) (hs : s.size ≤ 65536) (hm : most < 4294967296) :
    Calls Tryz.prog 12 #[.string s, .int .u32 most] w fun e w' => e = .returned (.tuple #[.string (cutM s most).1, .string (cutM s most).2.1, .int .i64 (cutM s most).2.2]) ∧ Mod (fun _ => False) w w' := by
  by_cases h4 : s.size < 4
  · have t1 : decide ((s.size : Int) < 4) = true := by simp; omega
    have hv : Hid (cutM s most = (ByteArray.empty, s, 0)) := if_pos (num0_no h4)
    go_enter Tryz.func12, Tryz.ntmps12
    go_wp2
    go_ret3
    exact ⟨by rw [hv.out]; rfl, Mod.refl _ _⟩
  have t1 : decide ((s.size : Int) < 4) = false := by simp; omega
  have hD : cutM s most = cutW (leNat (s.extract 0 4).data.toList, ⟨s, 4, 0⟩) s most := by unfold cutM; rw [num0_ok (by omega)]
  have hT := fun U => read_any (s.extract 0 4) U (by rw [ByteArray.size_extract]; omega)
  have hlt := leNat_lt (s.extract 0 4).data.toList
  have hb2 : (s.extract 0 4).data.toList.length = 4 := by rw [bsize, ByteArray.size_extract]; omega
  rw [hb2] at hlt
  have hlt : leNat (s.extract 0 4).data.toList < 4294967296 := hlt
  generalize leNat (s.extract 0 4).data.toList = n at *
  have HD1 : Hid (cutM s most = if n < 7 then (ByteArray.empty, ByteArray.empty, 51) else if most < n then (ByteArray.empty, ByteArray.empty, 4) else if s.size < n then (ByteArray.empty, s, 0) else (s.extract 0 n, s.extract n s.size, 0)) := by
    show _ = _
    rw [hD]
    unfold cutW
    rw [if_neg (by simp)]
  have b1 : (4 : Int) ≤ s.size := by omega
  have b1' : 4 ≤ s.size := by omega
  have hw1 : IntKind.u64.wrap (most : Int) = most := by rw [IntKind.wrap_u64]; omega
  have hw2 : IntKind.u64.wrap (s.size : Int) = s.size := by rw [IntKind.wrap_u64]; omega
  clear hb2 hD
  by_cases h2 : n < 7
  · have t2 : decide ((n : Int) < 7) = true := by simp; omega
    have hv : Hid (cutM s most = (ByteArray.empty, ByteArray.empty, 51)) := HD1.out.trans (if_pos h2)
    clear HD1
    go_enter Tryz.func12, Tryz.ntmps12
    go_wp2_with (go_at_call 32; refine (hT _).mono ?_; rintro e w1 ⟨rfl, rfl⟩)
    go_ret3
    exact ⟨by rw [hv.out]; rfl, Mod.refl _ _⟩
  have t2 : decide ((n : Int) < 7) = false := by simp; omega
  have HD2 := Lib.hid (HD1.out.trans (if_neg h2))
  clear HD1
  by_cases h3 : most < n
  · have t3 : decide ((most : Int) < (n : Int)) = true := by simp; omega
    have t3' : decide (most < n) = true := by simp; omega
    have hv : Hid (cutM s most = (ByteArray.empty, ByteArray.empty, 4)) := HD2.out.trans (if_pos h3)
    clear HD2
    go_enter Tryz.func12, Tryz.ntmps12
    go_wp2_with (go_at_call 32; refine (hT _).mono ?_; rintro e w1 ⟨rfl, rfl⟩)
    go_ret3
    exact ⟨by rw [hv.out]; rfl, Mod.refl _ _⟩
  have t3 : decide ((most : Int) < (n : Int)) = false := by simp; omega
  have t3' : decide (most < n) = false := by simp; omega
  have HD3 := Lib.hid (HD2.out.trans (if_neg h3))
  clear HD2
  by_cases h5 : s.size < n
  · have t4 : decide ((s.size : Int) < (n : Int)) = true := by simp; omega
    have t4' : decide (s.size < n) = true := by simp; omega
    have hv : Hid (cutM s most = (ByteArray.empty, s, 0)) := HD3.out.trans (if_pos h5)
    clear HD3
    go_enter Tryz.func12, Tryz.ntmps12
    go_wp2_with (go_at_call 32; refine (hT _).mono ?_; rintro e w1 ⟨rfl, rfl⟩)
    go_ret3
    exact ⟨by rw [hv.out]; rfl, Mod.refl _ _⟩
  have t4 : decide ((s.size : Int) < (n : Int)) = false := by simp; omega
  have t4' : decide (s.size < n) = false := by simp; omega
  have hv : Hid (cutM s most = (s.extract 0 n, s.extract n s.size, 0)) := HD3.out.trans (if_neg h5)
  clear HD3
  have b2 : (n : Int) ≤ s.size := by omega
  have b2' : n ≤ s.size := by omega
  have b3 : (0 : Int) ≤ (n : Int) := by omega
  go_enter Tryz.func12, Tryz.ntmps12
  go_wp2_with (go_at_call 32; refine (hT _).mono ?_; rintro e w1 ⟨rfl, rfl⟩)
  go_quiet (fail)
  go_wp2
  go_ret3
  exact ⟨by rw [hv.out]; rfl, (Mod.refl _ _).drewN _⟩
end Go.Proofs.YtklpopmjpgdjnaaGreatDoor
