/- Package dir's read. -/
import Derived.Test.YtfkmfllhlhefdaaDoorDirSlot
import Derived.Test.YtfkmfllhlhefdaaDoorDirName
import Derived.Test.YtfkmfllhlhefdaaDoorRd2
import Derived.Test.YtfkmfllhlhefdaaDoorPDirKeep
namespace Go.Proofs.YtfkmfllhlhefdaaDoor
open Go.RowKit

theorem code_new (s : ByteArray) (w : World) : Calls Tryd.prog 46 #[.string s] w fun e w' => e = .returned (.pointer (some ⟨w.heap.size, 0, none⟩)) ∧ w'.heap[w.heap.size]? = some (rdO ⟨s, 0, 0⟩) ∧ Mod (fun _ => False) w w' := by
  go_enter Tryd.func46, Tryd.ntmps46
  go_wp2
  go_ret
  exact ⟨rfl, new_at _ _, (Mod.refl _ _).alloc _⟩
theorem rd_num8 {x : ByteArray} (h : x.size = 64) : Rd.num ⟨x, 0, 0⟩ 8 = (readP x, ⟨x, 8, 0⟩) := by
  unfold Rd.num Rd.bytes
  simp [h, readP]
theorem rd_num1 {x : ByteArray} (h : x.size = 64) : Rd.num ⟨x, 8, 0⟩ 1 = (readL x, ⟨x, 9, 0⟩) := by
  unfold Rd.num Rd.bytes
  simp [h, readL]
theorem rd_name {x : ByteArray} (h : x.size = 64) : (Rd.bytes ⟨x, 9, 0⟩ ((min (readL x) 55 : Nat) : Int)).1 = readN x := by
  unfold Rd.bytes readN
  simp only [ne_eq, not_true_eq_false, if_false, Int.toNat_natCast]
  rw [if_neg (by omega), if_neg (by omega)]
theorem readL_lt (x : ByteArray) : readL x < 256 := by
  have := leNat_lt (x.extract 8 9).data.toList
  have h2 : (x.extract 8 9).data.toList.length ≤ 1 := by
    rw [Array.length_toList]
    show (x.extract 8 9).size ≤ 1
    rw [ByteArray.size_extract]; omega
  have h3 := Nat.pow_le_pow_right (n := 2) (by decide) (Nat.mul_le_mul_left 8 h2)
  unfold readL
  omega

set_option maxHeartbeats 1000000 in
set_option maxRecDepth 100000 in
theorem read_any (x : ByteArray) (w : World) (hx : x.size = 64) (hT : Tabs w) :
    Calls Tryd.prog 40 #[.string x] w fun e w' => e = .returned (.tuple #[.int .u64 (readP x), .string (readN x), .bool (readOk x)]) ∧ Mod (fun _ => False) w w' := by
  have hN := fun U => code_new x U
  have h8 := fun b U h => U64_any b ⟨x, 0, 0⟩ U h (by show x.size ≤ maxLen; unfold maxLen; omega) (Nat.zero_le _)
  rw [rd_num8 hx] at h8
  have h1 := fun b U h => U8_any b ⟨x, 8, 0⟩ U h (by show x.size ≤ maxLen; unfold maxLen; omega) (by show 8 ≤ x.size; omega)
  rw [rd_num1 hx] at h1
  have hB := fun b U h => bytes_any b ⟨x, 9, 0⟩ ((min (readL x) 55 : Nat) : Int) U h (by show x.size ≤ maxLen; unfold maxLen; omega) (by show 9 ≤ x.size; omega)
  rw [rd_name hx] at hB
  have hNm := fun U => name_any (readN x) U (by have := readN_size x; omega)
  have hSl := fun U => slot_any (readP x) (readN x) U (readP_lt x) (readN_size x)
  have hl := readL_lt x
  have hmn : min ((readL x : Nat) : Int) 55 = ((min (readL x) 55 : Nat) : Int) := by omega
  have hbq := toList_beq x (slotB (readP x) (readN x))
  have hV : Hid (readOk x = (decide (readP x ≠ 0) && (nameOk (readN x) && decide (x = slotB (readP x) (readN x))))) := rfl
  have hxe : decide (x.data.toList = (slotB (readP x) (readN x)).data.toList) = decide (x = slotB (readP x) (readN x)) := by
    congr 1
    rw [eq_iff_iff]
    exact ⟨fun h => ByteArray.ext (Array.ext' h), fun h => by rw [← h]⟩
  rw [hxe] at hbq
  clear hxe
  simp only at h8 h1 hB
  generalize hmm : min (readL x) 55 = mm at *
  have hmm1 : mm ≤ 55 := by omega
  clear hmm
  generalize readL x = L at *
  have hw : IntKind.i64.wrap (L : Int) = L := by rw [IntKind.wrap_i64]; omega
  generalize readP x = p at *
  generalize slotB p (readN x) = sl at *
  generalize readN x = nm at *
  generalize decide (x = sl) = ee at *
  generalize nameOk nm = nk at *
  go_enter Tryd.func40, Tryd.ntmps40
  go_wp2_with fail
  refine (hN _).mono ?_
  rintro e w1 ⟨rfl, b1, m1⟩
  go_wp2_with fail
  refine (h8 _ _ b1).mono ?_
  rintro e w2 ⟨rfl, b2, m2⟩
  go_wp2_with fail
  refine (h1 _ _ b2).mono ?_
  rintro e w3 ⟨rfl, b3, m3⟩
  go_wp2_with fail
  refine (hB _ _ b3).mono ?_
  rintro e w4 ⟨rfl, b4, m4⟩
  have m14 : Mod (fun _ => False) w w4 := m1.trans' ((m2.trans m3).trans m4) (fun k hk hx => by omega)
  have hT4 := hT.mod m14
  clear b1 b2 b3 b4 m1 m2 m3 m4 hN h8 h1 hB hmn
  by_cases hp : p = 0
  · have t1 : ((p : Int) != 0) = false := by subst hp; rfl
    have hV2 : Hid (readOk x = false) := by show _ = _; rw [hV.out, hp]; rfl
    clear hV hNm hSl
    go_wp2
    go_ret3
    exact ⟨by rw [hV2.out, hp]; rfl, m14⟩
  have t1 : ((p : Int) != 0) = true := by simp; omega
  have hV2 : Hid (readOk x = (nk && ee)) := by
    show _ = _
    rw [hV.out]
    simp [hp]
  clear hV
  cases nk with
  | false =>
    go_wp2_with fail
    refine (hNm _ hT4).mono ?_
    rintro e w5 ⟨rfl, m5⟩
    go_wp2
    go_ret3
    exact ⟨by rw [hV2.out]; rfl, m14.trans m5⟩
  | true =>
    go_wp2_with fail
    refine (hNm _ hT4).mono ?_
    rintro e w5 ⟨rfl, m5⟩
    go_wp2_with fail
    refine (hSl _).mono ?_
    rintro e w6 ⟨rfl, m6⟩
    go_wp2
    go_ret3
    exact ⟨by rw [hV2.out]; rfl, (m14.trans m5).trans m6⟩
end Go.Proofs.YtfkmfllhlhefdaaDoor
