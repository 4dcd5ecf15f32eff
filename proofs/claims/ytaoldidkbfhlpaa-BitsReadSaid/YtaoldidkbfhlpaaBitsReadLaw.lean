/-
  PROVED HERE: for every text s and every int n the law BitsRead returns true: bytes are read as just the bits that they are, or refused. No conditions.
-/
import Derived.Test.YtaoldidkbfhlpaaLawKit
import Derived.Test.YtaoldidkbfhlpaaBitsAlive
import Derived.Test.YtaoldidkbfhlpaaBitsStands
namespace Go.Proofs.Ytaoldidkbfhlpaa.bitsRead
open Go.ChangeShapes Go.WideShapes Go.ChangeAt Go.RowKit
open Go.ChangeMaps (open_string)

set_option maxHeartbeats 1000000 in
theorem walk (s : ByteArray) (n : Int) (w : World) (hs : s.size ≤ maxLen) :
    Calls Try.prog 4 #[.string s, .int .i64 n] w fun e w' => e = .returned (.bool true) ∧ Mod (fun _ => False) w w' := by
  go_enter Try.func4, Try.ntmps4
  by_cases hA : 300 < n ∧ n ≤ 16384
  · have t1 : decide (300 < n) = true := by simp [hA.1]
    have t2 : decide (n ≤ 16384) = true := by simp [hA.2]
    go_wp2_with fail
    refine (alive_any _).mono ?_
    rintro e w9 ⟨rfl, m9⟩
    go_wp2
    go_ret
    exact ⟨rfl, m9⟩
  · by_cases hB : 8192 < s.size
    · have t3 : decide (8192 < s.size) = true := by simp [hB]
      by_cases h1 : 300 < n
      · have t1 : decide (300 < n) = true := by simp [h1]
        have t2 : decide (n ≤ 16384) = false := by simp; omega
        go_wp2_with fail
        refine (alive_any _).mono ?_
        rintro e w9 ⟨rfl, m9⟩
        go_wp2
        go_ret
        exact ⟨rfl, m9⟩
      · have t1 : decide (300 < n) = false := by simp; omega
        go_wp2_with fail
        refine (alive_any _).mono ?_
        rintro e w9 ⟨rfl, m9⟩
        go_wp2
        go_ret
        exact ⟨rfl, m9⟩
    · have t3 : decide (8192 < s.size) = false := by simp; omega
      have hs2 : s.size ≤ 8192 := by omega
      by_cases hC : n < 1 ∨ 16384 < n
      · have t4 : decide (1 ≤ n ∧ n ≤ 16384) = false := by simp; omega
        by_cases h1 : 300 < n
        · have t1 : decide (300 < n) = true := by simp [h1]
          have t2 : decide (n ≤ 16384) = false := by simp; omega
          go_wp2_with fail
          refine (read_no s n _ hC).mono ?_
          rintro e w1 ⟨rfl, rfl⟩
          go_wp2_with fail
          refine (may_any n _).mono ?_
          rw [t4]
          rintro e w1 ⟨rfl, rfl⟩
          go_wp2_with fail
          refine (alive_any _).mono ?_
          rintro e w9 ⟨rfl, m9⟩
          go_wp2
          go_ret
          exact ⟨rfl, m9⟩
        · have t1 : decide (300 < n) = false := by simp; omega
          go_wp2_with fail
          refine (read_no s n _ hC).mono ?_
          rintro e w1 ⟨rfl, rfl⟩
          go_wp2_with fail
          refine (may_any n _).mono ?_
          rw [t4]
          rintro e w1 ⟨rfl, rfl⟩
          go_wp2_with fail
          refine (alive_any _).mono ?_
          rintro e w9 ⟨rfl, m9⟩
          go_wp2
          go_ret
          exact ⟨rfl, m9⟩
      · have t4 : decide (1 ≤ n ∧ n ≤ 16384) = true := by simp; omega
        obtain ⟨k, rfl⟩ : ∃ k : Nat, n = k := ⟨n.toNat, by omega⟩
        have hk1 : 1 ≤ k := by omega
        have hk2 : k ≤ 16384 := by omega
        have t1 : decide (300 < (k : Int)) = false := by simp; omega
        have hrd := read_any s k w _ _ rfl rfl hk1 hk2 hs
        have hrr := fun W => rread_any s k W hk1 hk2 hs
        unfold readP at hrd hrr
        by_cases hok : readE s k = 0
        · simp only [hok, if_true] at hrd hrr
          go_wp2_with fail
          refine hrd.mono ?_
          rintro e w1 ⟨rfl, hb, hm1⟩
          have HB := Lib.hid (hb trivial); clear hb hrd
          go_wp2_with fail
          refine (may_any _ _).mono ?_
          rw [t4]
          rintro e w1 ⟨rfl, rfl⟩
          go_wp2_with fail
          refine (hrr _).mono ?_
          rintro e w2 ⟨rfl, hr, hm2⟩
          obtain ⟨g2, cap, _, hR⟩ := hr trivial
          have HB2 : Hid (BitsAt w2 _ _ _ _) := HB.out.mod hm2 (fun x => x) (fun x => x)
          have HR2 := Lib.hid hR; clear hR hr hrr
          have HM2 := Lib.hid (hm1.trans hm2); clear hm1 hm2
          go_wp2_with fail
          refine (stands_any _ _ _ _ _ _ _ _ HB2.out HR2.out).mono ?_
          rintro e w3 ⟨rfl, hm3⟩
          have HB3 : Hid (BitsAt w3 _ _ _ _) := HB2.out.mod hm3 (fun x => x) (fun x => x)
          have HM3 := Lib.hid (HM2.out.trans hm3); clear hm3
          have hq : bs (bytesT (readT s k) ((k + 7) / 8)) = s := by
            unfold readE at hok
            split at hok
            · cases hok
            · split at hok
              · assumption
              · cases hok
          go_wp2_with fail
          refine (Bytes_any _ _ _ _ _ HB3.out).mono ?_
          rw [hq]
          rintro e w4 ⟨rfl, hm4⟩
          have HM4 := Lib.hid (HM3.out.trans hm4); clear hm4
          go_wp2_with fail
          refine (alive_any _).mono ?_
          rintro e w9 ⟨rfl, m9⟩
          go_wp2
          go_ret
          exact ⟨rfl, HM4.out.trans m9⟩
        · simp only [hok, if_false] at hrd hrr
          generalize readE s k = y at *
          have y0 : (y == 0) = false := by simpa using hok
          go_wp2_with fail
          refine hrd.mono ?_
          rintro e w1 ⟨rfl, _, hm1⟩
          go_wp2_with fail
          refine (may_any _ _).mono ?_
          rw [t4]
          rintro e w1 ⟨rfl, rfl⟩
          go_wp2_with fail
          refine (hrr _).mono ?_
          rintro e w2 ⟨rfl, _, hm2⟩
          have HM2 := Lib.hid (hm1.trans hm2); clear hm1 hm2
          go_wp2_with fail
          refine (alive_any _).mono ?_
          rintro e w9 ⟨rfl, m9⟩
          go_wp2
          go_ret
          exact ⟨rfl, HM2.out.trans m9⟩

theorem contract (H : Type) (enc : TypeId × Value → H) (W : World) (base : Nat) (args : Array Value) (ds gs : List (DataW H)) (before : List MemPlace)
    (hval : ∀ (j : Nat) t v, Try.f4.params[j]? = some t → args[j]? = some v → Value.okWide Try.prog W .any base t v)
    (hW : DataW.Whole enc Try.prog Try.f4.params.toList Rows.bitsReadSpec.vars false W args.toList ds gs before) :
    Calls Try.prog 4 args W fun e W' => ∃ v, e = .returned v ∧ Rows.bitsReadSpec.post enc Try.prog Try.f4 false true false false W args v W' := by
  have hW' := hW
  obtain ⟨p, q, hA0, hV, rfl, hfz, hnd⟩ := hW
  have hA : DataW.TrodAll enc Try.prog W 0 (fun _ => true) true Try.f4.params.toList args.toList ds p := hA0
  rw [Try.params4] at hA hval
  obtain ⟨v0, vs0, d0, ds0, p0, q0, hargs, rfl, rfl, h0, r0⟩ := trodAll_cons hA
  obtain ⟨v1, vs1, d1, ds1, p1, q1, rfl, rfl, rfl, h1, r1⟩ := trodAll_cons r0
  obtain ⟨rfl, rfl, rfl⟩ := trodAll_nil r1
  obtain rfl : args = #[v0, v1] := by cases args; simp_all
  obtain ⟨s, rfl, rfl, rfl, hmax⟩ := open_string Try.underlying9 (hval 0 9 v0 rfl rfl) h0
  obtain ⟨n, rfl, rfl, rfl, hmax1⟩ := open_int Try.underlying3 (hval 1 3 v1 rfl rfl) h1
  clear hA0
  refine (walk s n W hmax).mono fun e W' ⟨he, hg⟩ => ?_
  subst he
  exact ⟨_, rfl, law_post hW' hg (by kernel_rfl) rfl rfl rfl rfl rfl⟩

set_option maxRecDepth 100000 in
theorem lifted (os : Os) (started : os.Started) (H : Type) (enc : TypeId × Value → H) :
    ReturnsInHanded {} Try.checked os 4 .any (Rows.bitsReadSpec.pre6 enc Try.prog Try.f4 Rows.bitsReadRow.domain false) (Rows.bitsReadSpec.post enc Try.prog Try.f4 false true false false) := by
  refine returnsInHanded_of_change (C := Try.checked) own_knob started (by kernel_rfl) Try.func4
    (ChangeSpec.witness6 (enc := enc) (C := Try.checked) false ⟨#[], #[.string .empty, .int .i64 0], []⟩ 8 (by kernel_rfl) (by kernel_rfl) (by kernel_rfl) (by kernel_rfl)) ?_
  intro W base args ds gs before hval hW _ _
  exact contract H enc W base args ds gs before hval hW

theorem proved : Rows.BitsReadSaid :=
  OpenClaim.holds_of_wide 4 Try.f4 rfl rfl rfl rfl rfl rfl rfl ⟨rfl, rfl, rfl, rfl, rfl⟩ rfl rfl rfl rfl rfl (by kernel_rfl) Try.func4 (by kernel_rfl)
    (of_decide_eq_true (by kernel_rfl)) (by unfold Func.isWrapper; first | (rw [if_pos (by decide +kernel)]; kernel_rfl) | (rw [if_neg (by decide +kernel)]; exact ⟨rfl, rfl⟩))
    (fun os started H enc _ => lifted os started H enc)
end Go.Proofs.Ytaoldidkbfhlpaa.bitsRead
