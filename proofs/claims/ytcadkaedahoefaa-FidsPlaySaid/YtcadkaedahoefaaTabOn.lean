/- Package fids's Table: On; what is nil; the statements' small known run. -/
import Derived.Test.YtcadkaedahoefaaTabAll
import Derived.Test.YtcadkaedahoefaaFidEnd
import Derived.Test.YtcadkaedahoefaaRegionHold
namespace Go.Proofs.Ytcadkaedahoefaa
open Go.RowKit

def SortNone : Prop := ∀ W, Calls Try.prog 38 #[.slice none 0 0, .func (.func 39) #[] #[]] W fun e w' => e = .returned (.tuple #[]) ∧ w' = W
theorem on_step {l : HL} {j p : Nat} (h : j < l.length) : onS (l.take (j + 1)) p = onS (l.take j) p + (if l[j].2.path = p then 1 else 0) := by
  unfold onS
  rw [List.take_succ_eq_append_getElem h, List.filter_append, List.length_append]
  congr 1
  by_cases hp : l[j].2.path = p
  · simp [hp]
  · simp [hp]
theorem on_le (l : HL) (p : Nat) : onS l p ≤ l.length := List.length_filter_le _ _
set_option maxHeartbeats 1000000 in
set_option maxRecDepth 100000 in
theorem on_any (w : World) (F : Nat → Prop) (b n p : Nat) (l : HL) (most : Int) (h : TabAt w F b n l most) (hn : n ≤ 1000000) (hS : l = [] → SortNone) :
    Calls Try.prog 28 #[.pointer (some ⟨b, 0, none⟩), .int .u64 p] w fun e w' => e = .returned (.int .i64 (onS l p)) ∧ Mod (fun _ => False) w w' := by
  have hA := all_any w F b n l most h hn hS
  have hl : l.length ≤ 1000000 := by obtain ⟨mb, h⟩ := h; have := h.map.le; omega
  clear h hS
  go_enter Try.func28, Try.ntmps28
  go_wp2_with fail
  refine hA.mono ?_
  rintro e w1 ⟨v, rfl, hat, m1⟩
  obtain ⟨va, vc, rfl, hvc, hvx⟩ := hat.form
  have HM1 := Lib.hid m1
  clear hat m1 hA
  go_wp2
  go_loopw [5, 11] (fun c i wr => ∃ j : Nat, j ≤ l.length ∧ c = .int .i64 (onS (l.take j) p) ∧ i = .int .i64 j ∧ Hid (Mod (fun _ => False) w1 wr)) (fun _ i _ => l.length - (intOf i).toNat)
  case atStart => exact ⟨0, by omega, rfl, rfl, Mod.refl _ _⟩
  case round =>
    obtain ⟨j, hj, rfl, rfl, HM⟩ := hrel
    by_cases hjl : j < l.length
    · obtain ⟨g, off, rfl, _, hg, hc⟩ := hvx j l[j] (List.getElem?_eq_getElem hjl)
      have t5 : decide ((j : Int) < (l.length : Int)) = true := by simp; omega
      have j1 : (0 : Int) ≤ (j : Int) := by omega
      have j2 : (j : Int) < (l.length : Int) := by omega
      have j3 : (l.length : Int) ≤ (vc : Int) := by omega
      have hst := on_step (p := p) hjl
      have hle := on_le (l.take j) p
      rw [List.length_take, Nat.min_eq_left hj] at hle
      have c0 := keepR HM.out (hc 0 _ rfl)
      have c1 := keepR HM.out (hc 1 _ rfl)
      have c2 := keepR HM.out (hc 2 _ rfl)
      have c3 := keepR HM.out (hc 3 _ rfl)
      have c4 := keepR HM.out (hc 4 _ rfl)
      have c5 := keepR HM.out (hc 5 _ rfl)
      rw [Nat.add_zero] at c0
      generalize l[j] = E at *
      obtain ⟨W2, hW2⟩ : ∃ W2, wr.alloc (.cells #[.int .u32 E.1, .int .u64 E.2.path, .string E.2.who, .bool E.2.opn, .int .u8 E.2.mode, .int .u64 E.2.next] 69) = W2 := ⟨_, rfl⟩
      have hB : W2.heap[wr.heap.size]? = some (.cells #[.int .u32 E.1, .int .u64 E.2.path, .string E.2.who, .bool E.2.opn, .int .u8 E.2.mode, .int .u64 E.2.next] 69 (0, 0)) := by subst hW2; exact new_at _ _
      have m2 : Mod (fun _ => False) wr W2 := by subst hW2; exact (Mod.refl _ _).alloc _
      have b1 : W2.cell? ⟨wr.heap.size, 1, none⟩ = some (.int .u64 E.2.path) := (cell_of hB 1).trans rfl
      have HM2 := Lib.hid (HM.out.trans m2)
      clear hB m2 hvx hc
      by_cases hp : E.2.path = p
      · have u1 : ((E.2.path : Int) == (p : Int)) = true := by simp [hp]
        rw [if_pos hp] at hst
        have HSt := Lib.hid hst
        clear hst hp
        go_wp2
        go_roundw
        case rel => exact ⟨j + 1, hjl, by rw [HSt.out]; go_num, by go_num, HM2⟩
        case measure => simp [intOf]; omega
      · have u1 : ((E.2.path : Int) == (p : Int)) = false := by simp; omega
        rw [if_neg hp] at hst
        have HSt := Lib.hid hst
        clear hst hp
        go_wp2
        go_roundw
        case rel => exact ⟨j + 1, hjl, by rw [HSt.out]; rfl, by go_num, HM2⟩
        case measure => simp [intOf]; omega
    · obtain rfl : j = l.length := by omega
      have t5 : decide ((l.length : Int) < (l.length : Int)) = false := by simp
      have HV : Hid (onS (l.take l.length) p = onS l p) := by show _ = _; rw [List.take_length]
      clear hvx
      go_wp2
      go_ret
      exact ⟨by rw [← HV.out]; rfl, HM1.out.trans HM.out⟩
theorem len_any (w : World) (F : Nat → Prop) (b n : Nat) (l : HL) (most : Int) (h : TabAt w F b n l most) :
    Calls Try.prog 27 #[.pointer (some ⟨b, 0, none⟩)] w fun e w' => e = .returned (.int .i64 l.length) ∧ w' = w := by
  obtain ⟨mb, h⟩ := h
  have hobj := h.obj
  have c0 : w.cell? ⟨b, 0, none⟩ = some (.map (some mb)) := (cell_of hobj 0).trans rfl
  have hLen := fun ty => h.map.len Try.underlying86 ty
  clear h hobj
  go_enter Try.func27, Try.ntmps27
  go_wp2
  go_ret
  exact ⟨rfl, rfl⟩
end Go.Proofs.Ytcadkaedahoefaa
