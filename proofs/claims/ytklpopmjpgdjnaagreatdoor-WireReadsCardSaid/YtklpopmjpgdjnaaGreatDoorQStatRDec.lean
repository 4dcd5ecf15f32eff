/- Package stat's Decode. -/
import Derived.Test.YtklpopmjpgdjnaaGreatDoorQStatRNext
set_option linter.unusedVariables false
set_option linter.unusedSimpArgs false
namespace Go.Proofs.YtklpopmjpgdjnaaGreatDoor
open Go.RowKit

set_option maxRecDepth 100000 in
set_option maxHeartbeats 4000000 in
theorem rdec_any (b : ByteArray) (w : World) (hb : b.size ≤ 140737488355328) :
    Calls Tryz.prog 78 #[.string b] w fun e w' => e = .returned (.tuple #[(decS b).1.v, .int .i64 (decS b).2]) ∧ Mod (fun _ => False) w w' := by
  obtain ⟨W, hW⟩ : ∃ W, w.alloc (.cells #[.int .u16 0, .int .u32 0, .int .u8 0, .int .u32 0, .int .u64 0, .int .u32 0, .int .u32 0, .int .u32 0, .int .u64 0, .string { data := #[] }, .string { data := #[] }, .string { data := #[] }, .string { data := #[] }] 31) = W := ⟨_, rfl⟩
  have hz : W.heap[w.heap.size]? = some (.cells #[.int .u16 0, .int .u32 0, .int .u8 0, .int .u32 0, .int .u64 0, .int .u32 0, .int .u32 0, .int .u32 0, .int .u64 0, .string { data := #[] }, .string { data := #[] }, .string { data := #[] }, .string { data := #[] }] 31 (0, 0)) := by subst hW; exact new_at _ _
  have hm : Mod (fun _ => False) w W := by subst hW; exact (Mod.refl _ w).alloc _
  have hsz : W.heap.size = w.heap.size + 1 := by subst hW; simp
  have hN := fun U => rnext_any b U (by exact hb)
  have HD : Hid (decS b = if (nextS b).2.2 ≠ 0 then (St.zero, (nextS b).2.2) else if (nextS b).2.1 ≠ b.size then (St.zero, 51) else ((nextS b).1, 0)) := rfl
  generalize nextS b = R at *
  obtain ⟨s, n, er⟩ := R
  simp only at hN HD
  unfold St.v St.cells at hN
  go_enter Tryz.func78, Tryz.ntmps78
  go_wp2_with fail
  refine (hN _).mono ?_
  rintro e w1 ⟨rfl, m1⟩
  have HR := Lib.hid ((m1.block _ (lt_of hz) (fun x => x)).trans hz)
  have HM := Lib.hid (hm.trans m1)
  have hlt1 : w.heap.size < w1.heap.size := lt_of HR.out
  clear hN m1 hz hm hW hsz
  obtain ⟨W2, hW2⟩ : ∃ W2, w1.alloc (.cells s.cells.toArray 31) = W2 := ⟨_, rfl⟩
  have hX : W2.heap[w1.heap.size]? = some (.cells s.cells.toArray 31 (0, 0)) := by subst hW2; exact new_at _ _
  have m2 : Mod (fun _ => False) w1 W2 := by subst hW2; exact (Mod.refl _ _).alloc _
  have HT : Hid (W2.heap[w.heap.size]? = some (.cells #[.int .u16 0, .int .u32 0, .int .u8 0, .int .u32 0, .int .u64 0, .int .u32 0, .int .u32 0, .int .u32 0, .int .u64 0, .string { data := #[] }, .string { data := #[] }, .string { data := #[] }, .string { data := #[] }] 31 (0, 0)) ∧ Mod (fun _ => False) w W2) := Lib.hid ⟨(m2.block _ (lt_of HR.out) (fun x => x)).trans HR.out, HM.out.trans m2⟩
  unfold St.cells at hX hW2
  have HC : Hid (((W2).cell? ⟨w1.heap.size, 0, none⟩ = some (.int .u16 s.ty) ∧ (W2).cell? ⟨w1.heap.size, 1, none⟩ = some (.int .u32 s.dev) ∧ (W2).cell? ⟨w1.heap.size, 2, none⟩ = some (.int .u8 s.qt) ∧ (W2).cell? ⟨w1.heap.size, 3, none⟩ = some (.int .u32 s.qv) ∧ (W2).cell? ⟨w1.heap.size, 4, none⟩ = some (.int .u64 s.qp) ∧ (W2).cell? ⟨w1.heap.size, 5, none⟩ = some (.int .u32 s.mo) ∧ (W2).cell? ⟨w1.heap.size, 6, none⟩ = some (.int .u32 s.at_) ∧ (W2).cell? ⟨w1.heap.size, 7, none⟩ = some (.int .u32 s.mt) ∧ (W2).cell? ⟨w1.heap.size, 8, none⟩ = some (.int .u64 s.len) ∧ (W2).cell? ⟨w1.heap.size, 9, none⟩ = some (.string s.n) ∧ (W2).cell? ⟨w1.heap.size, 10, none⟩ = some (.string s.u) ∧ (W2).cell? ⟨w1.heap.size, 11, none⟩ = some (.string s.g) ∧ (W2).cell? ⟨w1.heap.size, 12, none⟩ = some (.string s.m))) := ⟨(cell_of (w := W2) hX 0).trans rfl, (cell_of (w := W2) hX 1).trans rfl, (cell_of (w := W2) hX 2).trans rfl, (cell_of (w := W2) hX 3).trans rfl, (cell_of (w := W2) hX 4).trans rfl, (cell_of (w := W2) hX 5).trans rfl, (cell_of (w := W2) hX 6).trans rfl, (cell_of (w := W2) hX 7).trans rfl, (cell_of (w := W2) hX 8).trans rfl, (cell_of (w := W2) hX 9).trans rfl, (cell_of (w := W2) hX 10).trans rfl, (cell_of (w := W2) hX 11).trans rfl, (cell_of (w := W2) hX 12).trans rfl⟩
  obtain ⟨d0, d1, d2, d3, d4, d5, d6, d7, d8, d9, d10, d11, d12⟩ := HC.out
  obtain ⟨ad, had⟩ : ∃ ad, w1.heap.size = ad := ⟨_, rfl⟩
  rw [had] at d0 d1 d2 d3 d4 d5 d6 d7 d8 d9 d10 d11 d12 hlt1
  have r0 : (W2).cell? ⟨w.heap.size, 0, none⟩ = some (.int .u16 0) := (cell_of (HT.out.1) 0).trans rfl
  have rf0 : (W2).frozen? ⟨w.heap.size, 0, none⟩ = false := free_of (HT.out.1) 0
  have r1 : (W2).cell? ⟨w.heap.size, 1, none⟩ = some (.int .u32 0) := (cell_of (HT.out.1) 1).trans rfl
  have rf1 : (W2).frozen? ⟨w.heap.size, 1, none⟩ = false := free_of (HT.out.1) 1
  have r2 : (W2).cell? ⟨w.heap.size, 2, none⟩ = some (.int .u8 0) := (cell_of (HT.out.1) 2).trans rfl
  have rf2 : (W2).frozen? ⟨w.heap.size, 2, none⟩ = false := free_of (HT.out.1) 2
  have r3 : (W2).cell? ⟨w.heap.size, 3, none⟩ = some (.int .u32 0) := (cell_of (HT.out.1) 3).trans rfl
  have rf3 : (W2).frozen? ⟨w.heap.size, 3, none⟩ = false := free_of (HT.out.1) 3
  have r4 : (W2).cell? ⟨w.heap.size, 4, none⟩ = some (.int .u64 0) := (cell_of (HT.out.1) 4).trans rfl
  have rf4 : (W2).frozen? ⟨w.heap.size, 4, none⟩ = false := free_of (HT.out.1) 4
  have r5 : (W2).cell? ⟨w.heap.size, 5, none⟩ = some (.int .u32 0) := (cell_of (HT.out.1) 5).trans rfl
  have rf5 : (W2).frozen? ⟨w.heap.size, 5, none⟩ = false := free_of (HT.out.1) 5
  have r6 : (W2).cell? ⟨w.heap.size, 6, none⟩ = some (.int .u32 0) := (cell_of (HT.out.1) 6).trans rfl
  have rf6 : (W2).frozen? ⟨w.heap.size, 6, none⟩ = false := free_of (HT.out.1) 6
  have r7 : (W2).cell? ⟨w.heap.size, 7, none⟩ = some (.int .u32 0) := (cell_of (HT.out.1) 7).trans rfl
  have rf7 : (W2).frozen? ⟨w.heap.size, 7, none⟩ = false := free_of (HT.out.1) 7
  have r8 : (W2).cell? ⟨w.heap.size, 8, none⟩ = some (.int .u64 0) := (cell_of (HT.out.1) 8).trans rfl
  have rf8 : (W2).frozen? ⟨w.heap.size, 8, none⟩ = false := free_of (HT.out.1) 8
  have r9 : (W2).cell? ⟨w.heap.size, 9, none⟩ = some (.string { data := #[] }) := (cell_of (HT.out.1) 9).trans rfl
  have rf9 : (W2).frozen? ⟨w.heap.size, 9, none⟩ = false := free_of (HT.out.1) 9
  have r10 : (W2).cell? ⟨w.heap.size, 10, none⟩ = some (.string { data := #[] }) := (cell_of (HT.out.1) 10).trans rfl
  have rf10 : (W2).frozen? ⟨w.heap.size, 10, none⟩ = false := free_of (HT.out.1) 10
  have r11 : (W2).cell? ⟨w.heap.size, 11, none⟩ = some (.string { data := #[] }) := (cell_of (HT.out.1) 11).trans rfl
  have rf11 : (W2).frozen? ⟨w.heap.size, 11, none⟩ = false := free_of (HT.out.1) 11
  have r12 : (W2).cell? ⟨w.heap.size, 12, none⟩ = some (.string { data := #[] }) := (cell_of (HT.out.1) 12).trans rfl
  have rf12 : (W2).frozen? ⟨w.heap.size, 12, none⟩ = false := free_of (HT.out.1) 12
  clear HC hX m2 HR HM
  by_cases h1 : er ≠ 0
  · have t1 : (er != 0) = true := by simpa using h1
    have hv : Hid (decS b = (St.zero, er)) := by rw [HD.out]; exact if_pos h1
    go_wp2
    obtain ⟨W6, hW6⟩ : ∃ W6, ((((((((((((((W2).setCell ⟨w.heap.size, 0, none⟩ (.int .u16 0)).setCell ⟨w.heap.size, 1, none⟩ (.int .u32 0)).setCell ⟨w.heap.size, 2, none⟩ (.int .u8 0)).setCell ⟨w.heap.size, 3, none⟩ (.int .u32 0)).setCell ⟨w.heap.size, 4, none⟩ (.int .u64 0)).setCell ⟨w.heap.size, 5, none⟩ (.int .u32 0)).setCell ⟨w.heap.size, 6, none⟩ (.int .u32 0)).setCell ⟨w.heap.size, 7, none⟩ (.int .u32 0)).setCell ⟨w.heap.size, 8, none⟩ (.int .u64 0)).setCell ⟨w.heap.size, 9, none⟩ (.string { data := #[] })).setCell ⟨w.heap.size, 10, none⟩ (.string { data := #[] })).setCell ⟨w.heap.size, 11, none⟩ (.string { data := #[] })).setCell ⟨w.heap.size, 12, none⟩ (.string { data := #[] })) = W6 := ⟨_, rfl⟩
    have h6 : W6.heap[w.heap.size]? = some (.cells #[.int .u16 0, .int .u32 0, .int .u8 0, .int .u32 0, .int .u64 0, .int .u32 0, .int .u32 0, .int .u32 0, .int .u64 0, .string { data := #[] }, .string { data := #[] }, .string { data := #[] }, .string { data := #[] }] 31 (0, 0)) := by
      subst hW6
      exact set13 (HT.out.1) (.int .u16 0) (.int .u32 0) (.int .u8 0) (.int .u32 0) (.int .u64 0) (.int .u32 0) (.int .u32 0) (.int .u32 0) (.int .u64 0) (.string { data := #[] }) (.string { data := #[] }) (.string { data := #[] }) (.string { data := #[] })
    have hm6 : Mod (· = w.heap.size) (W2) W6 := by
      subst hW6
      exact mod13 (W2) w.heap.size (.int .u16 0) (.int .u32 0) (.int .u8 0) (.int .u32 0) (.int .u64 0) (.int .u32 0) (.int .u32 0) (.int .u32 0) (.int .u64 0) (.string { data := #[] }) (.string { data := #[] }) (.string { data := #[] }) (.string { data := #[] })
    rw [hW6]
    have z0 : W6.cell? ⟨w.heap.size, 0, none⟩ = some (.int .u16 0) := (cell_of h6 0).trans rfl
    have z1 : W6.cell? ⟨w.heap.size, 1, none⟩ = some (.int .u32 0) := (cell_of h6 1).trans rfl
    have z2 : W6.cell? ⟨w.heap.size, 2, none⟩ = some (.int .u8 0) := (cell_of h6 2).trans rfl
    have z3 : W6.cell? ⟨w.heap.size, 3, none⟩ = some (.int .u32 0) := (cell_of h6 3).trans rfl
    have z4 : W6.cell? ⟨w.heap.size, 4, none⟩ = some (.int .u64 0) := (cell_of h6 4).trans rfl
    have z5 : W6.cell? ⟨w.heap.size, 5, none⟩ = some (.int .u32 0) := (cell_of h6 5).trans rfl
    have z6 : W6.cell? ⟨w.heap.size, 6, none⟩ = some (.int .u32 0) := (cell_of h6 6).trans rfl
    have z7 : W6.cell? ⟨w.heap.size, 7, none⟩ = some (.int .u32 0) := (cell_of h6 7).trans rfl
    have z8 : W6.cell? ⟨w.heap.size, 8, none⟩ = some (.int .u64 0) := (cell_of h6 8).trans rfl
    have z9 : W6.cell? ⟨w.heap.size, 9, none⟩ = some (.string { data := #[] }) := (cell_of h6 9).trans rfl
    have z10 : W6.cell? ⟨w.heap.size, 10, none⟩ = some (.string { data := #[] }) := (cell_of h6 10).trans rfl
    have z11 : W6.cell? ⟨w.heap.size, 11, none⟩ = some (.string { data := #[] }) := (cell_of h6 11).trans rfl
    have z12 : W6.cell? ⟨w.heap.size, 12, none⟩ = some (.string { data := #[] }) := (cell_of h6 12).trans rfl
    clear hW6
    refine bodyPost_ret (v := .tuple #[.agg #[.int .u16 0, .int .u32 0, .int .u8 0, .int .u32 0, .int .u64 0, .int .u32 0, .int .u32 0, .int .u32 0, .int .u64 0, .string { data := #[] }, .string { data := #[] }, .string { data := #[] }, .string { data := #[] }], .int .i64 er]) ?_ rfl ⟨by rw [hv.out]; rfl, HT.out.2.trans' hm6 (fun j hj e => by omega)⟩
    simp [results, Tryz.f78, go_sem, z0, z1, z2, z3, z4, z5, z6, z7, z8, z9, z10, z11, z12]
  · have t1 : (er != 0) = false := by simp at h1 ⊢; exact h1
    have HD2 := Lib.hid (HD.out.trans (if_neg h1))
    by_cases h2 : n ≠ b.size
    · have t2 : ((n : Int) != (b.size : Int)) = true := by simp; omega
      have hv : Hid (decS b = (St.zero, 51)) := by rw [HD2.out]; exact if_pos h2
      go_wp2
      obtain ⟨W6, hW6⟩ : ∃ W6, ((((((((((((((W2).setCell ⟨w.heap.size, 0, none⟩ (.int .u16 0)).setCell ⟨w.heap.size, 1, none⟩ (.int .u32 0)).setCell ⟨w.heap.size, 2, none⟩ (.int .u8 0)).setCell ⟨w.heap.size, 3, none⟩ (.int .u32 0)).setCell ⟨w.heap.size, 4, none⟩ (.int .u64 0)).setCell ⟨w.heap.size, 5, none⟩ (.int .u32 0)).setCell ⟨w.heap.size, 6, none⟩ (.int .u32 0)).setCell ⟨w.heap.size, 7, none⟩ (.int .u32 0)).setCell ⟨w.heap.size, 8, none⟩ (.int .u64 0)).setCell ⟨w.heap.size, 9, none⟩ (.string { data := #[] })).setCell ⟨w.heap.size, 10, none⟩ (.string { data := #[] })).setCell ⟨w.heap.size, 11, none⟩ (.string { data := #[] })).setCell ⟨w.heap.size, 12, none⟩ (.string { data := #[] })) = W6 := ⟨_, rfl⟩
      have h6 : W6.heap[w.heap.size]? = some (.cells #[.int .u16 0, .int .u32 0, .int .u8 0, .int .u32 0, .int .u64 0, .int .u32 0, .int .u32 0, .int .u32 0, .int .u64 0, .string { data := #[] }, .string { data := #[] }, .string { data := #[] }, .string { data := #[] }] 31 (0, 0)) := by
        subst hW6
        exact set13 (HT.out.1) (.int .u16 0) (.int .u32 0) (.int .u8 0) (.int .u32 0) (.int .u64 0) (.int .u32 0) (.int .u32 0) (.int .u32 0) (.int .u64 0) (.string { data := #[] }) (.string { data := #[] }) (.string { data := #[] }) (.string { data := #[] })
      have hm6 : Mod (· = w.heap.size) (W2) W6 := by
        subst hW6
        exact mod13 (W2) w.heap.size (.int .u16 0) (.int .u32 0) (.int .u8 0) (.int .u32 0) (.int .u64 0) (.int .u32 0) (.int .u32 0) (.int .u32 0) (.int .u64 0) (.string { data := #[] }) (.string { data := #[] }) (.string { data := #[] }) (.string { data := #[] })
      rw [hW6]
      have z0 : W6.cell? ⟨w.heap.size, 0, none⟩ = some (.int .u16 0) := (cell_of h6 0).trans rfl
      have z1 : W6.cell? ⟨w.heap.size, 1, none⟩ = some (.int .u32 0) := (cell_of h6 1).trans rfl
      have z2 : W6.cell? ⟨w.heap.size, 2, none⟩ = some (.int .u8 0) := (cell_of h6 2).trans rfl
      have z3 : W6.cell? ⟨w.heap.size, 3, none⟩ = some (.int .u32 0) := (cell_of h6 3).trans rfl
      have z4 : W6.cell? ⟨w.heap.size, 4, none⟩ = some (.int .u64 0) := (cell_of h6 4).trans rfl
      have z5 : W6.cell? ⟨w.heap.size, 5, none⟩ = some (.int .u32 0) := (cell_of h6 5).trans rfl
      have z6 : W6.cell? ⟨w.heap.size, 6, none⟩ = some (.int .u32 0) := (cell_of h6 6).trans rfl
      have z7 : W6.cell? ⟨w.heap.size, 7, none⟩ = some (.int .u32 0) := (cell_of h6 7).trans rfl
      have z8 : W6.cell? ⟨w.heap.size, 8, none⟩ = some (.int .u64 0) := (cell_of h6 8).trans rfl
      have z9 : W6.cell? ⟨w.heap.size, 9, none⟩ = some (.string { data := #[] }) := (cell_of h6 9).trans rfl
      have z10 : W6.cell? ⟨w.heap.size, 10, none⟩ = some (.string { data := #[] }) := (cell_of h6 10).trans rfl
      have z11 : W6.cell? ⟨w.heap.size, 11, none⟩ = some (.string { data := #[] }) := (cell_of h6 11).trans rfl
      have z12 : W6.cell? ⟨w.heap.size, 12, none⟩ = some (.string { data := #[] }) := (cell_of h6 12).trans rfl
      clear hW6
      refine bodyPost_ret (v := .tuple #[.agg #[.int .u16 0, .int .u32 0, .int .u8 0, .int .u32 0, .int .u64 0, .int .u32 0, .int .u32 0, .int .u32 0, .int .u64 0, .string { data := #[] }, .string { data := #[] }, .string { data := #[] }, .string { data := #[] }], .int .i64 51]) ?_ rfl ⟨by rw [hv.out]; rfl, HT.out.2.trans' hm6 (fun j hj e => by omega)⟩
      simp [results, Tryz.f78, go_sem, z0, z1, z2, z3, z4, z5, z6, z7, z8, z9, z10, z11, z12]
    · have t2 : ((n : Int) != (b.size : Int)) = false := by simp at h2 ⊢; omega
      have hv : Hid (decS b = (s, 0)) := by rw [HD2.out]; exact if_neg h2
      go_wp2
      obtain ⟨W6, hW6⟩ : ∃ W6, ((((((((((((((W2).setCell ⟨w.heap.size, 0, none⟩ (.int .u16 s.ty)).setCell ⟨w.heap.size, 1, none⟩ (.int .u32 s.dev)).setCell ⟨w.heap.size, 2, none⟩ (.int .u8 s.qt)).setCell ⟨w.heap.size, 3, none⟩ (.int .u32 s.qv)).setCell ⟨w.heap.size, 4, none⟩ (.int .u64 s.qp)).setCell ⟨w.heap.size, 5, none⟩ (.int .u32 s.mo)).setCell ⟨w.heap.size, 6, none⟩ (.int .u32 s.at_)).setCell ⟨w.heap.size, 7, none⟩ (.int .u32 s.mt)).setCell ⟨w.heap.size, 8, none⟩ (.int .u64 s.len)).setCell ⟨w.heap.size, 9, none⟩ (.string s.n)).setCell ⟨w.heap.size, 10, none⟩ (.string s.u)).setCell ⟨w.heap.size, 11, none⟩ (.string s.g)).setCell ⟨w.heap.size, 12, none⟩ (.string s.m)) = W6 := ⟨_, rfl⟩
      have h6 : W6.heap[w.heap.size]? = some (.cells #[.int .u16 s.ty, .int .u32 s.dev, .int .u8 s.qt, .int .u32 s.qv, .int .u64 s.qp, .int .u32 s.mo, .int .u32 s.at_, .int .u32 s.mt, .int .u64 s.len, .string s.n, .string s.u, .string s.g, .string s.m] 31 (0, 0)) := by
        subst hW6
        exact set13 (HT.out.1) (.int .u16 s.ty) (.int .u32 s.dev) (.int .u8 s.qt) (.int .u32 s.qv) (.int .u64 s.qp) (.int .u32 s.mo) (.int .u32 s.at_) (.int .u32 s.mt) (.int .u64 s.len) (.string s.n) (.string s.u) (.string s.g) (.string s.m)
      have hm6 : Mod (· = w.heap.size) (W2) W6 := by
        subst hW6
        exact mod13 (W2) w.heap.size (.int .u16 s.ty) (.int .u32 s.dev) (.int .u8 s.qt) (.int .u32 s.qv) (.int .u64 s.qp) (.int .u32 s.mo) (.int .u32 s.at_) (.int .u32 s.mt) (.int .u64 s.len) (.string s.n) (.string s.u) (.string s.g) (.string s.m)
      rw [hW6]
      have z0 : W6.cell? ⟨w.heap.size, 0, none⟩ = some (.int .u16 s.ty) := (cell_of h6 0).trans rfl
      have z1 : W6.cell? ⟨w.heap.size, 1, none⟩ = some (.int .u32 s.dev) := (cell_of h6 1).trans rfl
      have z2 : W6.cell? ⟨w.heap.size, 2, none⟩ = some (.int .u8 s.qt) := (cell_of h6 2).trans rfl
      have z3 : W6.cell? ⟨w.heap.size, 3, none⟩ = some (.int .u32 s.qv) := (cell_of h6 3).trans rfl
      have z4 : W6.cell? ⟨w.heap.size, 4, none⟩ = some (.int .u64 s.qp) := (cell_of h6 4).trans rfl
      have z5 : W6.cell? ⟨w.heap.size, 5, none⟩ = some (.int .u32 s.mo) := (cell_of h6 5).trans rfl
      have z6 : W6.cell? ⟨w.heap.size, 6, none⟩ = some (.int .u32 s.at_) := (cell_of h6 6).trans rfl
      have z7 : W6.cell? ⟨w.heap.size, 7, none⟩ = some (.int .u32 s.mt) := (cell_of h6 7).trans rfl
      have z8 : W6.cell? ⟨w.heap.size, 8, none⟩ = some (.int .u64 s.len) := (cell_of h6 8).trans rfl
      have z9 : W6.cell? ⟨w.heap.size, 9, none⟩ = some (.string s.n) := (cell_of h6 9).trans rfl
      have z10 : W6.cell? ⟨w.heap.size, 10, none⟩ = some (.string s.u) := (cell_of h6 10).trans rfl
      have z11 : W6.cell? ⟨w.heap.size, 11, none⟩ = some (.string s.g) := (cell_of h6 11).trans rfl
      have z12 : W6.cell? ⟨w.heap.size, 12, none⟩ = some (.string s.m) := (cell_of h6 12).trans rfl
      clear hW6
      refine bodyPost_ret (v := .tuple #[.agg #[.int .u16 s.ty, .int .u32 s.dev, .int .u8 s.qt, .int .u32 s.qv, .int .u64 s.qp, .int .u32 s.mo, .int .u32 s.at_, .int .u32 s.mt, .int .u64 s.len, .string s.n, .string s.u, .string s.g, .string s.m], .int .i64 0]) ?_ rfl ⟨by rw [hv.out]; rfl, HT.out.2.trans' hm6 (fun j hj e => by omega)⟩
      simp [results, Tryz.f78, go_sem, z0, z1, z2, z3, z4, z5, z6, z7, z8, z9, z10, z11, z12]
end Go.Proofs.YtklpopmjpgdjnaaGreatDoor
