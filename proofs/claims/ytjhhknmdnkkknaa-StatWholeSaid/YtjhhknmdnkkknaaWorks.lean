/- works: the zero stat. -/
import Derived.Test.YtjhhknmdnkkknaaPWorks
import Derived.Test.YtjhhknmdnkkknaaStatDec
import Derived.Test.YtjhhknmdnkkknaaStatWin
import Derived.Test.YtjhhknmdnkkknaaStatEq
namespace Go.Proofs.Ytjhhknmdnkkknaa
open Go.RowKit

theorem zero_v : St.zero.v = .agg #[.int .u16 0, .int .u32 0, .int .u8 0, .int .u32 0, .int .u64 0, .int .u32 0, .int .u32 0, .int .u32 0, .int .u64 0, .string { data := #[] }, .string { data := #[] }, .string { data := #[] }, .string { data := #[] }] := rfl
theorem setCell_idn {w : World} {b i : Nat} {cs : Array Value} {e : TypeId} {v : Value} (h : w.heap[b]? = some (.cells cs e (0, 0))) (hv : cs[i]? = some v) : w.setCell ⟨b, i, none⟩ v = w := by
  have hi : i < cs.size := (Array.getElem?_eq_some_iff.1 hv).1
  have hcs : cs.setIfInBounds i v = cs := by
    obtain ⟨_, h2⟩ := Array.getElem?_eq_some_iff.1 hv
    rw [Array.setIfInBounds, dif_pos hi, ← h2, Array.set_getElem_self]
  have hh : (w.setCell ⟨b, i, none⟩ v).heap = w.heap := by
    apply Array.ext_getElem?
    intro j
    by_cases hj : j = b
    · subst hj
      rw [heap_set h i v, hcs, h]
    · rw [Below.heap_setCell _ _ _ _ hj]
  show { w with heap := (w.setCell ⟨b, i, none⟩ v).heap } = w
  rw [hh]
theorem encZ (U : World) : Calls Try.prog 10 #[.agg #[.int .u16 0, .int .u32 0, .int .u8 0, .int .u32 0, .int .u64 0, .int .u32 0, .int .u32 0, .int .u32 0, .int .u64 0, .string { data := #[] }, .string { data := #[] }, .string { data := #[] }, .string { data := #[] }]] U fun e w' => e = .returned (.tuple #[.string zb, .int .i64 0]) ∧ Mod (fun _ => False) U w' := by
  have := enc_any St.zero U zero_ok (by decide) (by decide) (by decide) (by decide)
  rw [encS_zero] at this
  exact this
theorem decZ (U : World) : Calls Try.prog 17 #[.string zb] U fun e w' => e = .returned (.tuple #[.agg #[.int .u16 0, .int .u32 0, .int .u8 0, .int .u32 0, .int .u64 0, .int .u32 0, .int .u32 0, .int .u32 0, .int .u64 0, .string { data := #[] }, .string { data := #[] }, .string { data := #[] }, .string { data := #[] }], .int .i64 0]) ∧ Mod (fun _ => False) U w' := by
  have := dec_any zb U (by decide)
  rw [decS_zb] at this
  exact this
theorem decZx (U : World) (x : ByteArray) (hx : zb ++ ⟨#[120]⟩ = x) : Calls Try.prog 17 #[.string x] U fun e w' => e = .returned (.tuple #[.agg #[.int .u16 0, .int .u32 0, .int .u8 0, .int .u32 0, .int .u64 0, .int .u32 0, .int .u32 0, .int .u32 0, .int .u64 0, .string { data := #[] }, .string { data := #[] }, .string { data := #[] }, .string { data := #[] }], .int .i64 51]) ∧ Mod (fun _ => False) U w' := by
  subst hx
  have := dec_any (zb ++ ⟨#[120]⟩) U (by decide)
  rw [decS_zbx] at this
  exact this
theorem winZ2 (U : World) (b : Nat) (e : TypeId) (h : U.heap[b]? = some (.cells #[.int .u16 0, .int .u32 0, .int .u8 0, .int .u32 0, .int .u64 0, .int .u32 0, .int .u32 0, .int .u32 0, .int .u64 0, .string { data := #[] }, .string { data := #[] }, .string { data := #[] }, .string { data := #[] }, .int .u16 0, .int .u32 0, .int .u8 0, .int .u32 0, .int .u64 0, .int .u32 0, .int .u32 0, .int .u32 0, .int .u64 0, .string { data := #[] }, .string { data := #[] }, .string { data := #[] }, .string { data := #[] }] e (0, 0))) :
    Calls Try.prog 14 #[.slice (some ⟨b, 0, none⟩) 2 2, .int .u64 49, .int .u32 60] U fun e w' => e = .returned (.tuple #[.string zb, .int .i64 0]) ∧ Mod (fun _ => False) U w' := by
  have := win_any _ _ 49 60 U (stsFlat U (fun _ => True) b [St.zero, St.zero] 2 e h (by decide) trivial) (by decide) (by intro s hs; simp at hs; subst hs; exact ⟨zero_ok, by decide, by decide, by decide, by decide⟩) (by decide) (by decide)
  rw [winS_two] at this
  exact this
theorem winZ1 (U : World) (b : Nat) (e : TypeId) (h : U.heap[b]? = some (.cells #[.int .u16 0, .int .u32 0, .int .u8 0, .int .u32 0, .int .u64 0, .int .u32 0, .int .u32 0, .int .u32 0, .int .u64 0, .string { data := #[] }, .string { data := #[] }, .string { data := #[] }, .string { data := #[] }] e (0, 0))) :
    Calls Try.prog 14 #[.slice (some ⟨b, 0, none⟩) 1 1, .int .u64 1, .int .u32 60] U fun e w' => e = .returned (.tuple #[.string ByteArray.empty, .int .i64 2]) ∧ Mod (fun _ => False) U w' := by
  have := win_any _ _ 1 60 U (stsFlat U (fun _ => True) b [St.zero] 1 e h (by decide) trivial) (by decide) (by intro s hs; simp at hs; subst hs; exact ⟨zero_ok, by decide, by decide, by decide, by decide⟩) (by decide) (by decide)
  rw [winS_one] at this
  exact this

set_option maxRecDepth 100000 in
set_option maxHeartbeats 4000000 in
theorem works_any (w : World) : Calls Try.prog 9 #[] w fun e w' => e = .returned (.bool true) ∧ Mod (fun _ => False) w w' := by
  have hzs : zb.size = 49 := by decide
  obtain ⟨z, hz⟩ : ∃ z, zb = z := ⟨_, rfl⟩
  have hz0 : (z[0]'(by rw [← hz]; decide)).toNat = 47 := by subst hz; rfl
  obtain ⟨zx, hzx⟩ : ∃ zx, z ++ (⟨#[120]⟩ : ByteArray) = zx := ⟨_, rfl⟩
  have hzxs : zx.size = 50 := by rw [← hzx, ← hz]; decide
  have hEq := eql_any St.zero St.zero
  rw [zero_v, show eqS St.zero St.zero = true from (eqS_iff _ _).2 rfl] at hEq
  have e1 := encZ
  have e2 := decZ
  have e3 := fun U => decZx U zx (by rw [hz]; exact hzx)
  have e4 := winZ2
  rw [hz] at e1 e2 hzs
  rw [hz] at e4
  go_enter Try.func9, Try.ntmps9
  go_wp2_with fail
  refine (e1 _).mono ?_
  rintro e w1 ⟨rfl, m1⟩
  go_wp2_with fail
  refine (e2 _).mono ?_
  rintro e w2 ⟨rfl, m2⟩
  obtain ⟨W2, hW2⟩ : ∃ W2, w2.alloc (.cells #[.int .u16 0, .int .u32 0, .int .u8 0, .int .u32 0, .int .u64 0, .int .u32 0, .int .u32 0, .int .u32 0, .int .u64 0, .string { data := #[] }, .string { data := #[] }, .string { data := #[] }, .string { data := #[] }] 28) = W2 := ⟨_, rfl⟩
  have hX : W2.heap[w2.heap.size]? = some (.cells #[.int .u16 0, .int .u32 0, .int .u8 0, .int .u32 0, .int .u64 0, .int .u32 0, .int .u32 0, .int .u32 0, .int .u64 0, .string { data := #[] }, .string { data := #[] }, .string { data := #[] }, .string { data := #[] }] 28 (0, 0)) := by subst hW2; exact new_at _ _
  have m3 : Mod (fun _ => False) w2 W2 := by subst hW2; exact (Mod.refl _ _).alloc _
  have r0 : (W2).cell? ⟨w2.heap.size, 0, none⟩ = some (.int .u16 0) := (cell_of (hX) 0).trans rfl
  have rf0 : (W2).frozen? ⟨w2.heap.size, 0, none⟩ = false := free_of (hX) 0
  have r1 : (W2).cell? ⟨w2.heap.size, 1, none⟩ = some (.int .u32 0) := (cell_of (hX) 1).trans rfl
  have rf1 : (W2).frozen? ⟨w2.heap.size, 1, none⟩ = false := free_of (hX) 1
  have r2 : (W2).cell? ⟨w2.heap.size, 2, none⟩ = some (.int .u8 0) := (cell_of (hX) 2).trans rfl
  have rf2 : (W2).frozen? ⟨w2.heap.size, 2, none⟩ = false := free_of (hX) 2
  have r3 : (W2).cell? ⟨w2.heap.size, 3, none⟩ = some (.int .u32 0) := (cell_of (hX) 3).trans rfl
  have rf3 : (W2).frozen? ⟨w2.heap.size, 3, none⟩ = false := free_of (hX) 3
  have r4 : (W2).cell? ⟨w2.heap.size, 4, none⟩ = some (.int .u64 0) := (cell_of (hX) 4).trans rfl
  have rf4 : (W2).frozen? ⟨w2.heap.size, 4, none⟩ = false := free_of (hX) 4
  have r5 : (W2).cell? ⟨w2.heap.size, 5, none⟩ = some (.int .u32 0) := (cell_of (hX) 5).trans rfl
  have rf5 : (W2).frozen? ⟨w2.heap.size, 5, none⟩ = false := free_of (hX) 5
  have r6 : (W2).cell? ⟨w2.heap.size, 6, none⟩ = some (.int .u32 0) := (cell_of (hX) 6).trans rfl
  have rf6 : (W2).frozen? ⟨w2.heap.size, 6, none⟩ = false := free_of (hX) 6
  have r7 : (W2).cell? ⟨w2.heap.size, 7, none⟩ = some (.int .u32 0) := (cell_of (hX) 7).trans rfl
  have rf7 : (W2).frozen? ⟨w2.heap.size, 7, none⟩ = false := free_of (hX) 7
  have r8 : (W2).cell? ⟨w2.heap.size, 8, none⟩ = some (.int .u64 0) := (cell_of (hX) 8).trans rfl
  have rf8 : (W2).frozen? ⟨w2.heap.size, 8, none⟩ = false := free_of (hX) 8
  have r9 : (W2).cell? ⟨w2.heap.size, 9, none⟩ = some (.string { data := #[] }) := (cell_of (hX) 9).trans rfl
  have rf9 : (W2).frozen? ⟨w2.heap.size, 9, none⟩ = false := free_of (hX) 9
  have r10 : (W2).cell? ⟨w2.heap.size, 10, none⟩ = some (.string { data := #[] }) := (cell_of (hX) 10).trans rfl
  have rf10 : (W2).frozen? ⟨w2.heap.size, 10, none⟩ = false := free_of (hX) 10
  have r11 : (W2).cell? ⟨w2.heap.size, 11, none⟩ = some (.string { data := #[] }) := (cell_of (hX) 11).trans rfl
  have rf11 : (W2).frozen? ⟨w2.heap.size, 11, none⟩ = false := free_of (hX) 11
  have r12 : (W2).cell? ⟨w2.heap.size, 12, none⟩ = some (.string { data := #[] }) := (cell_of (hX) 12).trans rfl
  have rf12 : (W2).frozen? ⟨w2.heap.size, 12, none⟩ = false := free_of (hX) 12
  have s0 : (W2).setCell ⟨w2.heap.size, 0, none⟩ (.int .u16 0) = W2 := setCell_idn (hX) rfl
  have s1 : (W2).setCell ⟨w2.heap.size, 1, none⟩ (.int .u32 0) = W2 := setCell_idn (hX) rfl
  have s2 : (W2).setCell ⟨w2.heap.size, 2, none⟩ (.int .u8 0) = W2 := setCell_idn (hX) rfl
  have s3 : (W2).setCell ⟨w2.heap.size, 3, none⟩ (.int .u32 0) = W2 := setCell_idn (hX) rfl
  have s4 : (W2).setCell ⟨w2.heap.size, 4, none⟩ (.int .u64 0) = W2 := setCell_idn (hX) rfl
  have s5 : (W2).setCell ⟨w2.heap.size, 5, none⟩ (.int .u32 0) = W2 := setCell_idn (hX) rfl
  have s6 : (W2).setCell ⟨w2.heap.size, 6, none⟩ (.int .u32 0) = W2 := setCell_idn (hX) rfl
  have s7 : (W2).setCell ⟨w2.heap.size, 7, none⟩ (.int .u32 0) = W2 := setCell_idn (hX) rfl
  have s8 : (W2).setCell ⟨w2.heap.size, 8, none⟩ (.int .u64 0) = W2 := setCell_idn (hX) rfl
  have s9 : (W2).setCell ⟨w2.heap.size, 9, none⟩ (.string { data := #[] }) = W2 := setCell_idn (hX) rfl
  have s10 : (W2).setCell ⟨w2.heap.size, 10, none⟩ (.string { data := #[] }) = W2 := setCell_idn (hX) rfl
  have s11 : (W2).setCell ⟨w2.heap.size, 11, none⟩ (.string { data := #[] }) = W2 := setCell_idn (hX) rfl
  have s12 : (W2).setCell ⟨w2.heap.size, 12, none⟩ (.string { data := #[] }) = W2 := setCell_idn (hX) rfl
  have hM := Lib.hid ((m1.trans m2).trans m3)
  clear m1 m2 m3
  go_wp2_with fail
  refine (e3 _).mono ?_
  rintro e w4 ⟨rfl, m4⟩
  obtain ⟨ba, hba⟩ : ∃ ba, w2.heap.size = ba := ⟨_, rfl⟩
  rw [hba] at hX
  have HX4 := Lib.hid ((m4.block _ (lt_of hX) (fun x => x)).trans hX)
  have HM4 := Lib.hid (hM.out.trans m4)
  clear m4 hM hX r0 r1 r2 r3 r4 r5 r6 r7 r8 r9 r10 r11 r12 rf0 rf1 rf2 rf3 rf4 rf5 rf6 rf7 rf8 rf9 rf10 rf11 rf12 s0 s1 s2 s3 s4 s5 s6 s7 s8 s9 s10 s11 s12
  obtain ⟨W5, hW5⟩ : ∃ W5, w4.alloc (.cells #[.int .u16 0, .int .u32 0, .int .u8 0, .int .u32 0, .int .u64 0, .int .u32 0, .int .u32 0, .int .u32 0, .int .u64 0, .string { data := #[] }, .string { data := #[] }, .string { data := #[] }, .string { data := #[] }] 28) = W5 := ⟨_, rfl⟩
  have hX5 : W5.heap[w4.heap.size]? = some (.cells #[.int .u16 0, .int .u32 0, .int .u8 0, .int .u32 0, .int .u64 0, .int .u32 0, .int .u32 0, .int .u32 0, .int .u64 0, .string { data := #[] }, .string { data := #[] }, .string { data := #[] }, .string { data := #[] }] 28 (0, 0)) := by subst hW5; exact new_at _ _
  have m5 : Mod (fun _ => False) w4 W5 := by subst hW5; exact (Mod.refl _ _).alloc _
  have r0 : (W5).cell? ⟨w4.heap.size, 0, none⟩ = some (.int .u16 0) := (cell_of (hX5) 0).trans rfl
  have rf0 : (W5).frozen? ⟨w4.heap.size, 0, none⟩ = false := free_of (hX5) 0
  have r1 : (W5).cell? ⟨w4.heap.size, 1, none⟩ = some (.int .u32 0) := (cell_of (hX5) 1).trans rfl
  have rf1 : (W5).frozen? ⟨w4.heap.size, 1, none⟩ = false := free_of (hX5) 1
  have r2 : (W5).cell? ⟨w4.heap.size, 2, none⟩ = some (.int .u8 0) := (cell_of (hX5) 2).trans rfl
  have rf2 : (W5).frozen? ⟨w4.heap.size, 2, none⟩ = false := free_of (hX5) 2
  have r3 : (W5).cell? ⟨w4.heap.size, 3, none⟩ = some (.int .u32 0) := (cell_of (hX5) 3).trans rfl
  have rf3 : (W5).frozen? ⟨w4.heap.size, 3, none⟩ = false := free_of (hX5) 3
  have r4 : (W5).cell? ⟨w4.heap.size, 4, none⟩ = some (.int .u64 0) := (cell_of (hX5) 4).trans rfl
  have rf4 : (W5).frozen? ⟨w4.heap.size, 4, none⟩ = false := free_of (hX5) 4
  have r5 : (W5).cell? ⟨w4.heap.size, 5, none⟩ = some (.int .u32 0) := (cell_of (hX5) 5).trans rfl
  have rf5 : (W5).frozen? ⟨w4.heap.size, 5, none⟩ = false := free_of (hX5) 5
  have r6 : (W5).cell? ⟨w4.heap.size, 6, none⟩ = some (.int .u32 0) := (cell_of (hX5) 6).trans rfl
  have rf6 : (W5).frozen? ⟨w4.heap.size, 6, none⟩ = false := free_of (hX5) 6
  have r7 : (W5).cell? ⟨w4.heap.size, 7, none⟩ = some (.int .u32 0) := (cell_of (hX5) 7).trans rfl
  have rf7 : (W5).frozen? ⟨w4.heap.size, 7, none⟩ = false := free_of (hX5) 7
  have r8 : (W5).cell? ⟨w4.heap.size, 8, none⟩ = some (.int .u64 0) := (cell_of (hX5) 8).trans rfl
  have rf8 : (W5).frozen? ⟨w4.heap.size, 8, none⟩ = false := free_of (hX5) 8
  have r9 : (W5).cell? ⟨w4.heap.size, 9, none⟩ = some (.string { data := #[] }) := (cell_of (hX5) 9).trans rfl
  have rf9 : (W5).frozen? ⟨w4.heap.size, 9, none⟩ = false := free_of (hX5) 9
  have r10 : (W5).cell? ⟨w4.heap.size, 10, none⟩ = some (.string { data := #[] }) := (cell_of (hX5) 10).trans rfl
  have rf10 : (W5).frozen? ⟨w4.heap.size, 10, none⟩ = false := free_of (hX5) 10
  have r11 : (W5).cell? ⟨w4.heap.size, 11, none⟩ = some (.string { data := #[] }) := (cell_of (hX5) 11).trans rfl
  have rf11 : (W5).frozen? ⟨w4.heap.size, 11, none⟩ = false := free_of (hX5) 11
  have r12 : (W5).cell? ⟨w4.heap.size, 12, none⟩ = some (.string { data := #[] }) := (cell_of (hX5) 12).trans rfl
  have rf12 : (W5).frozen? ⟨w4.heap.size, 12, none⟩ = false := free_of (hX5) 12
  have s0 : (W5).setCell ⟨w4.heap.size, 0, none⟩ (.int .u16 0) = W5 := setCell_idn (hX5) rfl
  have s1 : (W5).setCell ⟨w4.heap.size, 1, none⟩ (.int .u32 0) = W5 := setCell_idn (hX5) rfl
  have s2 : (W5).setCell ⟨w4.heap.size, 2, none⟩ (.int .u8 0) = W5 := setCell_idn (hX5) rfl
  have s3 : (W5).setCell ⟨w4.heap.size, 3, none⟩ (.int .u32 0) = W5 := setCell_idn (hX5) rfl
  have s4 : (W5).setCell ⟨w4.heap.size, 4, none⟩ (.int .u64 0) = W5 := setCell_idn (hX5) rfl
  have s5 : (W5).setCell ⟨w4.heap.size, 5, none⟩ (.int .u32 0) = W5 := setCell_idn (hX5) rfl
  have s6 : (W5).setCell ⟨w4.heap.size, 6, none⟩ (.int .u32 0) = W5 := setCell_idn (hX5) rfl
  have s7 : (W5).setCell ⟨w4.heap.size, 7, none⟩ (.int .u32 0) = W5 := setCell_idn (hX5) rfl
  have s8 : (W5).setCell ⟨w4.heap.size, 8, none⟩ (.int .u64 0) = W5 := setCell_idn (hX5) rfl
  have s9 : (W5).setCell ⟨w4.heap.size, 9, none⟩ (.string { data := #[] }) = W5 := setCell_idn (hX5) rfl
  have s10 : (W5).setCell ⟨w4.heap.size, 10, none⟩ (.string { data := #[] }) = W5 := setCell_idn (hX5) rfl
  have s11 : (W5).setCell ⟨w4.heap.size, 11, none⟩ (.string { data := #[] }) = W5 := setCell_idn (hX5) rfl
  have s12 : (W5).setCell ⟨w4.heap.size, 12, none⟩ (.string { data := #[] }) = W5 := setCell_idn (hX5) rfl
  have HX5 := Lib.hid ((m5.block _ (lt_of HX4.out) (fun x => x)).trans HX4.out)
  have HM5 := Lib.hid (HM4.out.trans m5)
  obtain ⟨W6, hW6⟩ : ∃ W6, W5.alloc (.cells #[.int .u16 0, .int .u32 0, .int .u8 0, .int .u32 0, .int .u64 0, .int .u32 0, .int .u32 0, .int .u32 0, .int .u64 0, .string { data := #[] }, .string { data := #[] }, .string { data := #[] }, .string { data := #[] }, .int .u16 0, .int .u32 0, .int .u8 0, .int .u32 0, .int .u64 0, .int .u32 0, .int .u32 0, .int .u32 0, .int .u64 0, .string { data := #[] }, .string { data := #[] }, .string { data := #[] }, .string { data := #[] }] 28) = W6 := ⟨_, rfl⟩
  have hY6 : W6.heap[W5.heap.size]? = some (.cells #[.int .u16 0, .int .u32 0, .int .u8 0, .int .u32 0, .int .u64 0, .int .u32 0, .int .u32 0, .int .u32 0, .int .u64 0, .string { data := #[] }, .string { data := #[] }, .string { data := #[] }, .string { data := #[] }, .int .u16 0, .int .u32 0, .int .u8 0, .int .u32 0, .int .u64 0, .int .u32 0, .int .u32 0, .int .u32 0, .int .u64 0, .string { data := #[] }, .string { data := #[] }, .string { data := #[] }, .string { data := #[] }] 28 (0, 0)) := by subst hW6; exact new_at _ _
  have m6 : Mod (fun _ => False) W5 W6 := by subst hW6; exact (Mod.refl _ _).alloc _
  have HX6 := Lib.hid ((m6.block _ (lt_of HX5.out) (fun x => x)).trans HX5.out)
  have HM6 := Lib.hid (HM5.out.trans m6)
  have e5 := e4 W6 _ _ hY6
  clear m5 m6 HX4 HM4 HX5 HM5
  go_wp2_with fail
  refine e5.mono ?_
  rintro e w7 ⟨rfl, m7⟩
  have HX7 := Lib.hid ((m7.block _ (lt_of HX6.out) (fun x => x)).trans HX6.out)
  have HM7 := Lib.hid (HM6.out.trans m7)
  obtain ⟨W8, hW8⟩ : ∃ W8, w7.alloc (.cells #[.int .u16 0, .int .u32 0, .int .u8 0, .int .u32 0, .int .u64 0, .int .u32 0, .int .u32 0, .int .u32 0, .int .u64 0, .string { data := #[] }, .string { data := #[] }, .string { data := #[] }, .string { data := #[] }] 28) = W8 := ⟨_, rfl⟩
  have hY8 : W8.heap[w7.heap.size]? = some (.cells #[.int .u16 0, .int .u32 0, .int .u8 0, .int .u32 0, .int .u64 0, .int .u32 0, .int .u32 0, .int .u32 0, .int .u64 0, .string { data := #[] }, .string { data := #[] }, .string { data := #[] }, .string { data := #[] }] 28 (0, 0)) := by subst hW8; exact new_at _ _
  have m8 : Mod (fun _ => False) w7 W8 := by subst hW8; exact (Mod.refl _ _).alloc _
  have HX8 := Lib.hid ((m8.block _ (lt_of HX7.out) (fun x => x)).trans HX7.out)
  have HM8 := Lib.hid (HM7.out.trans m8)
  have e6 := winZ1 W8 _ _ hY8
  clear m7 m8 HX6 HM6 HX7 HM7
  go_wp2_with fail
  refine e6.mono ?_
  rintro e w9 ⟨rfl, m9⟩
  have HX9 := Lib.hid ((m9.block _ (lt_of HX8.out) (fun x => x)).trans HX8.out)
  have HM9 := Lib.hid (HM8.out.trans m9)
  clear m9 HX8 HM8 hW8 hW6 hW5 hW2 hX5 hY6 hY8
  have r0 : (w9).cell? ⟨ba, 0, none⟩ = some (.int .u16 0) := (cell_of (HX9.out) 0).trans rfl
  have rf0 : (w9).frozen? ⟨ba, 0, none⟩ = false := free_of (HX9.out) 0
  have r1 : (w9).cell? ⟨ba, 1, none⟩ = some (.int .u32 0) := (cell_of (HX9.out) 1).trans rfl
  have rf1 : (w9).frozen? ⟨ba, 1, none⟩ = false := free_of (HX9.out) 1
  have r2 : (w9).cell? ⟨ba, 2, none⟩ = some (.int .u8 0) := (cell_of (HX9.out) 2).trans rfl
  have rf2 : (w9).frozen? ⟨ba, 2, none⟩ = false := free_of (HX9.out) 2
  have r3 : (w9).cell? ⟨ba, 3, none⟩ = some (.int .u32 0) := (cell_of (HX9.out) 3).trans rfl
  have rf3 : (w9).frozen? ⟨ba, 3, none⟩ = false := free_of (HX9.out) 3
  have r4 : (w9).cell? ⟨ba, 4, none⟩ = some (.int .u64 0) := (cell_of (HX9.out) 4).trans rfl
  have rf4 : (w9).frozen? ⟨ba, 4, none⟩ = false := free_of (HX9.out) 4
  have r5 : (w9).cell? ⟨ba, 5, none⟩ = some (.int .u32 0) := (cell_of (HX9.out) 5).trans rfl
  have rf5 : (w9).frozen? ⟨ba, 5, none⟩ = false := free_of (HX9.out) 5
  have r6 : (w9).cell? ⟨ba, 6, none⟩ = some (.int .u32 0) := (cell_of (HX9.out) 6).trans rfl
  have rf6 : (w9).frozen? ⟨ba, 6, none⟩ = false := free_of (HX9.out) 6
  have r7 : (w9).cell? ⟨ba, 7, none⟩ = some (.int .u32 0) := (cell_of (HX9.out) 7).trans rfl
  have rf7 : (w9).frozen? ⟨ba, 7, none⟩ = false := free_of (HX9.out) 7
  have r8 : (w9).cell? ⟨ba, 8, none⟩ = some (.int .u64 0) := (cell_of (HX9.out) 8).trans rfl
  have rf8 : (w9).frozen? ⟨ba, 8, none⟩ = false := free_of (HX9.out) 8
  have r9 : (w9).cell? ⟨ba, 9, none⟩ = some (.string { data := #[] }) := (cell_of (HX9.out) 9).trans rfl
  have rf9 : (w9).frozen? ⟨ba, 9, none⟩ = false := free_of (HX9.out) 9
  have r10 : (w9).cell? ⟨ba, 10, none⟩ = some (.string { data := #[] }) := (cell_of (HX9.out) 10).trans rfl
  have rf10 : (w9).frozen? ⟨ba, 10, none⟩ = false := free_of (HX9.out) 10
  have r11 : (w9).cell? ⟨ba, 11, none⟩ = some (.string { data := #[] }) := (cell_of (HX9.out) 11).trans rfl
  have rf11 : (w9).frozen? ⟨ba, 11, none⟩ = false := free_of (HX9.out) 11
  have r12 : (w9).cell? ⟨ba, 12, none⟩ = some (.string { data := #[] }) := (cell_of (HX9.out) 12).trans rfl
  have rf12 : (w9).frozen? ⟨ba, 12, none⟩ = false := free_of (HX9.out) 12
  go_wp2
  go_ret
  exact ⟨rfl, HM9.out⟩
end Go.Proofs.Ytjhhknmdnkkknaa
