/- The document's directories: a slot read, a slot put. -/
import Derived.Test.YtfkmfllhlhefdaaDoorDirRef
import Derived.Test.YtfkmfllhlhefdaaDoorRegionHold
import Derived.Test.YtfkmfllhlhefdaaDoorDirRead
namespace Go.Proofs.YtfkmfllhlhefdaaDoor
open Go.RowKit

set_option maxHeartbeats 1000000 in
set_option maxRecDepth 100000 in
theorem rwith_any (s x : ByteArray) (at_ : Nat) (w : World) (hs : s.size ≤ 1099511627776) (ha : at_ ≤ 1099511627776) (hx : x.size ≤ 1099511627776) (hle : at_ * 64 ≤ s.size) (hin : at_ * 64 < s.size → at_ * 64 + 64 ≤ s.size) :
    Calls Tryd.prog 33 #[.string s, .int .i64 at_, .string x] w fun e w' => e = .returned (.string (withS s at_ x)) ∧ Mod (fun _ => False) w w' := by
  have hap : ∀ x y : ByteArray, (x ++ y).size = x.size + y.size := fun x y => ByteArray.size_append
  obtain ⟨k, hk⟩ : ∃ k, at_ * 64 = k := ⟨_, rfl⟩
  have hw1 : IntKind.i64.wrap ((at_ : Int) * 64) = k := by rw [IntKind.wrap_i64]; omega
  have hw2 : IntKind.i64.wrap ((at_ : Int) + 1) = ((at_ + 1 : Nat) : Int) := by rw [IntKind.wrap_i64]; omega
  have hw3 : IntKind.i64.wrap (((at_ + 1 : Nat) : Int) * 64) = ((k + 64 : Nat) : Int) := by rw [IntKind.wrap_i64]; omega
  rw [hk] at hin hle
  by_cases hc : s.size = k
  · have HV : Hid (withS s at_ x = s ++ x) := by show _ = _; unfold withS; rw [if_pos (by omega)]
    have t1 : ((k : Int) == (s.size : Int)) = true := by simp; omega
    clear hin hle hc
    go_enter Tryd.func33, Tryd.ntmps33
    go_wp2
    go_ret
    exact ⟨by rw [HV.out]; rfl, Mod.refl _ _⟩
  · have HV : Hid (withS s at_ x = s.extract 0 k ++ x ++ s.extract ((at_ + 1) * 64) s.size) := by show _ = _; unfold withS; rw [if_neg (by omega), Nat.add_mul, Nat.one_mul, hk]
    have hin := hin (by omega)
    have t1 : ((k : Int) == (s.size : Int)) = false := by simp; omega
    have hz1 : (s.extract 0 k).size = k := by rw [ByteArray.size_extract]; omega
    have hz2 : (s.extract (k + 64) s.size).size = s.size - (k + 64) := by rw [ByteArray.size_extract]; omega
    have i1 : (k : Int) ≤ (s.size : Int) := by omega
    have i2 : ((k + 64 : Nat) : Int) ≤ (s.size : Int) := by omega
    have i3 : k ≤ s.size := by omega
    clear hc
    go_enter Tryd.func33, Tryd.ntmps33
    go_wp2
    go_quiet (fail)
    go_wp2
    go_ret
    exact ⟨by rw [HV.out]; rfl, (Mod.refl _ _).drewN _⟩
theorem le_plus {x : ByteArray} {k : Nat} (hx : x.size = 64) (hk : k < 8) :
    IntKind.u64.wrap (IntKind.u64.wrap ((leNat ((x.extract 0 8).data.toList.drop (k + 1)) : Int) * 256) + IntKind.u64.wrap ((x[k]'(by omega)).toNat : Int)) = (leNat ((x.extract 0 8).data.toList.drop k) : Int) := by
  have hl : k < (x.extract 0 8).data.toList.length := by
    rw [Array.length_toList]
    show k < (x.extract 0 8).size
    rw [ByteArray.size_extract]; omega
  have h1 := leNat_lt ((x.extract 0 8).data.toList.drop (k + 1))
  have hc := (x[k]'(by omega)).toNat_lt
  have h2 : ((x.extract 0 8).data.toList.drop (k + 1)).length ≤ 7 := by
    rw [List.length_drop, Array.length_toList]
    have : (x.extract 0 8).data.size = 8 := by show (x.extract 0 8).size = 8; rw [ByteArray.size_extract]; omega
    omega
  have h3 : leNat ((x.extract 0 8).data.toList.drop (k + 1)) < 72057594037927936 := Nat.lt_of_lt_of_le h1 (by
    have : (2 : Nat) ^ (8 * ((x.extract 0 8).data.toList.drop (k + 1)).length) ≤ 2 ^ 56 := Nat.pow_le_pow_right (by omega) (by omega)
    exact this)
  rw [List.drop_eq_getElem_cons hl, leNat]
  have he : (x.extract 0 8).data.toList[k] = x[k]'(by omega) := by
    simp only [ByteArray.data_extract, Array.getElem_toList, Array.getElem_extract, Nat.zero_add]
    rfl
  rw [he]
  generalize leNat ((x.extract 0 8).data.toList.drop (k + 1)) = q at *
  generalize (x[k]'(by omega)).toNat = c at *
  simp only [IntKind.wrap_u64]
  omega
set_option maxHeartbeats 1000000 in
set_option maxRecDepth 100000 in
theorem rread_any (x : ByteArray) (w : World) (hx : x.size = 64) (hT : Tabs w) :
    Calls Tryd.prog 29 #[.string x] w fun e w' => ∃ p' n', e = .returned (.tuple #[.int .u64 (p' : Nat), .string n', .bool (readOk x)]) ∧ (readOk x = true → p' = readP x ∧ n' = readN x) ∧ Mod (fun _ => False) w w' := by
  have hN : readN x = x.extract 9 (9 + min (readL x) 55) := rfl
  have hP : Hid (leNat ((x.extract 0 8).data.toList.drop 0) = readP x) := rfl
  have hL : readL x = (x[8]'(by omega)).toNat := by
    unfold readL
    have : (x.extract 8 9).data.toList = [x[8]'(by omega)] := by
      rw [ByteArray.data_extract, Array.toList_extract]
      have hl : 8 < x.data.toList.length := by rw [Array.length_toList]; show 8 < x.size; omega
      have h2 : (9 : Nat) - 8 = 1 := rfl
      show (List.take (9 - 8) (List.drop 8 x.data.toList)) = _
      rw [List.drop_eq_getElem_cons hl]
      rfl
    rw [this]
    rfl
  have hLok : 55 < readL x → readOk x = false := by
    intro h
    rw [← Bool.not_eq_true]
    intro hk
    obtain ⟨h1, h2, h3⟩ := readOk_name hk
    have := (nameOk_size h1).2
    rw [h3, readL_slot _ _ this] at h
    omega
  have hNm := fun U => rname_any (readN x) U (by have := readN_size x; omega)
  have hSl := fun U => rslot_any (readP x) (readN x) U (readP_lt x) (readN_size x)
  have hbq := toList_beq x (slotB (readP x) (readN x))
  have hV : Hid (readOk x = (decide (readP x ≠ 0) && (nameOk (readN x) && decide (x = slotB (readP x) (readN x))))) := rfl
  have hxe : decide (x.data.toList = (slotB (readP x) (readN x)).data.toList) = decide (x = slotB (readP x) (readN x)) := by
    congr 1
    rw [eq_iff_iff]
    exact ⟨fun h => ByteArray.ext (Array.ext' h), fun h => by rw [← h]⟩
  rw [hxe] at hbq
  clear hxe
  have hlt := readL_lt x
  rw [hL] at hN hLok hlt
  have hle := fun k (hk : k < 8) => le_plus hx hk
  have HLE := Lib.hid hle
  have d8 : leNat ((x.extract 0 8).data.toList.drop 8) = 0 := by
    rw [List.drop_eq_nil_of_le]
    · rfl
    · rw [Array.length_toList]
      show (x.extract 0 8).size ≤ 8
      rw [ByteArray.size_extract]; omega
  clear hle hL
  go_enter Tryd.func29, Tryd.ntmps29
  go_wp2
  go_loop [5, 6] (fun y i => ∃ k : Nat, k ≤ 8 ∧ i = .int .i64 ((k : Int) - 1) ∧ y = .int .u64 (leNat ((x.extract 0 8).data.toList.drop k))) (fun _ i => ((intOf i) + 1).toNat)
  case atStart => exact ⟨8, Nat.le_refl _, rfl, by rw [d8]; rfl⟩
  case round =>
    obtain ⟨k, hk, rfl, rfl⟩ := hrel
    by_cases hlt : 0 < k
    · obtain ⟨j, rfl⟩ : ∃ j, k = j + 1 := ⟨k - 1, by omega⟩
      rw [show (((j + 1 : Nat) : Int) - 1) = (j : Int) from by omega]
      have hj : j < x.size := by omega
      have HV : Hid _ := HLE.out j (by omega)
      generalize leNat ((x.extract 0 8).data.toList.drop (j + 1)) = q at *
      go_wp2
      go_round
      case rel => exact ⟨j, by omega, by first | rfl | go_num, congrArg (Value.int .u64) HV.out⟩
      case measure => first | (simp [intOf]; done) | (simp [intOf]; omega)
    · obtain rfl : k = 0 := by omega
      obtain ⟨p, hpe⟩ : ∃ p, readP x = p := ⟨_, rfl⟩
      rw [hP.out, hpe]
      rw [hpe] at hV hbq hSl
      have hpl := readP_lt x
      rw [hpe] at hpl
      have HPE := Lib.hid hpe
      clear hP HLE d8 hpe
      have i8 : (8 : Int) < (x.size : Int) := by omega
      generalize hb8 : (x[8]'(by omega)).toNat = L at *
      by_cases h55 : 55 < L
      · have t1 : decide ((55 : Int) < (L : Int)) = true := by simp; omega
        have hR := Lib.hid (hLok h55)
        clear hLok hV hN hNm hSl hbq
        go_wp2
        go_ret3
        exact ⟨0, ⟨#[]⟩, by rw [hR.out]; rfl, fun h => (by rw [hR.out] at h; cases h), Mod.refl _ _⟩
      have t1 : decide ((55 : Int) < (L : Int)) = false := by simp; omega
      rw [show min L 55 = L from by omega] at hN
      have hw9 : IntKind.i64.wrap (9 + (L : Int)) = ((9 + L : Nat) : Int) := by rw [IntKind.wrap_i64]; omega
      have j1 : ((9 + L : Nat) : Int) ≤ (x.size : Int) := by omega
      have j2 : (9 : Int) ≤ ((9 + L : Nat) : Int) := by omega
      clear hLok hlt hk h55
      obtain ⟨nm, hnm⟩ : ∃ nm, x.extract 9 (9 + L) = nm := ⟨_, rfl⟩
      rw [hnm] at hN
      rw [hN] at hV hbq hNm hSl
      have HNE := Lib.hid hN
      clear hN
      generalize slotB p nm = sl at *
      generalize decide (x = sl) = ee at *
      generalize nameOk nm = nk at *
      by_cases hp : p = 0
      · have t1 : ((p : Int) != 0) = false := by subst hp; rfl
        have hV2 : Hid (readOk x = false) := by show _ = _; rw [hV.out, hp]; rfl
        clear hV hNm hSl
        go_wp2
        go_ret3
        exact ⟨p, nm, by rw [hV2.out, hp]; rfl, fun _ => ⟨HPE.out.symm, HNE.out.symm⟩, Mod.refl _ _⟩
      have t1 : ((p : Int) != 0) = true := by simp; omega
      have hV2 : Hid (readOk x = (nk && ee)) := by
        show _ = _
        rw [hV.out]
        simp [hp]
      clear hV
      cases nk with
      | false =>
        go_wp2_with fail
        refine (hNm _ hT).mono ?_
        rintro e w5 ⟨rfl, m5⟩
        go_wp2
        go_ret3
        exact ⟨p, nm, by rw [hV2.out]; rfl, fun _ => ⟨HPE.out.symm, HNE.out.symm⟩, m5⟩
      | true =>
        go_wp2_with fail
        refine (hNm _ hT).mono ?_
        rintro e w5 ⟨rfl, m5⟩
        go_wp2_with fail
        refine (hSl _).mono ?_
        rintro e w6 ⟨rfl, m6⟩
        go_wp2
        go_ret3
        exact ⟨p, nm, by rw [hV2.out]; rfl, fun _ => ⟨HPE.out.symm, HNE.out.symm⟩, m5.trans m6⟩
end Go.Proofs.YtfkmfllhlhefdaaDoor
