/- Package stat's Next. -/
import Derived.Test.YtklpopmjpgdjnaaGreatDoorQStatFill
import Derived.Test.YtklpopmjpgdjnaaGreatDoorQGa
import Derived.Test.YtklpopmjpgdjnaaGreatDoorQGc
import Derived.Test.YtklpopmjpgdjnaaGreatDoorQGd
set_option linter.unusedVariables false
set_option linter.unusedSimpArgs false
namespace Go.Proofs.YtklpopmjpgdjnaaGreatDoor
open Go.RowKit

set_option maxHeartbeats 400000 in
theorem new_any (s : ByteArray) (w : World) :
    Calls Tryz.prog 22 #[.string s] w fun e w' => e = .returned (.pointer (some ⟨w.heap.size, 0, none⟩)) ∧ w'.heap[w.heap.size]? = some (rdO ⟨s, 0, 0⟩) ∧ Mod (fun _ => False) w w' := by
  go_enter Tryz.func22, Tryz.ntmps22
  go_wp2
  go_ret
  exact ⟨by first | rfl | trivial, new_at _ _, (Mod.refl _ w).alloc _⟩

theorem set13 {U : World} {b : Nat} {T : TypeId} {c0 c1 c2 c3 c4 c5 c6 c7 c8 c9 c10 c11 c12 : Value} (h : U.heap[b]? = some (.cells #[c0, c1, c2, c3, c4, c5, c6, c7, c8, c9, c10, c11, c12] T (0, 0))) (v0 v1 v2 v3 v4 v5 v6 v7 v8 v9 v10 v11 v12 : Value) :
    (((((((((((((((U).setCell ⟨b, 0, none⟩ (v0)).setCell ⟨b, 1, none⟩ (v1)).setCell ⟨b, 2, none⟩ (v2)).setCell ⟨b, 3, none⟩ (v3)).setCell ⟨b, 4, none⟩ (v4)).setCell ⟨b, 5, none⟩ (v5)).setCell ⟨b, 6, none⟩ (v6)).setCell ⟨b, 7, none⟩ (v7)).setCell ⟨b, 8, none⟩ (v8)).setCell ⟨b, 9, none⟩ (v9)).setCell ⟨b, 10, none⟩ (v10)).setCell ⟨b, 11, none⟩ (v11)).setCell ⟨b, 12, none⟩ (v12))).heap[b]? = some (.cells #[v0, v1, v2, v3, v4, v5, v6, v7, v8, v9, v10, v11, v12] T (0, 0)) := by
  have := heap_set (heap_set (heap_set (heap_set (heap_set (heap_set (heap_set (heap_set (heap_set (heap_set (heap_set (heap_set (heap_set h 0 v0) 1 v1) 2 v2) 3 v3) 4 v4) 5 v5) 6 v6) 7 v7) 8 v8) 9 v9) 10 v10) 11 v11) 12 v12
  simpa only [List.setIfInBounds_toArray, List.set_cons_zero, List.set_cons_succ] using this
theorem mod13 (U : World) (b : Nat) (v0 v1 v2 v3 v4 v5 v6 v7 v8 v9 v10 v11 v12 : Value) : Mod (· = b) U (((((((((((((((U).setCell ⟨b, 0, none⟩ (v0)).setCell ⟨b, 1, none⟩ (v1)).setCell ⟨b, 2, none⟩ (v2)).setCell ⟨b, 3, none⟩ (v3)).setCell ⟨b, 4, none⟩ (v4)).setCell ⟨b, 5, none⟩ (v5)).setCell ⟨b, 6, none⟩ (v6)).setCell ⟨b, 7, none⟩ (v7)).setCell ⟨b, 8, none⟩ (v8)).setCell ⟨b, 9, none⟩ (v9)).setCell ⟨b, 10, none⟩ (v10)).setCell ⟨b, 11, none⟩ (v11)).setCell ⟨b, 12, none⟩ (v12))) :=
  ((((((((((((Mod.set1 U b 0 v0).trans (Mod.set1 _ b 1 v1)).trans (Mod.set1 _ b 2 v2)).trans (Mod.set1 _ b 3 v3)).trans (Mod.set1 _ b 4 v4)).trans (Mod.set1 _ b 5 v5)).trans (Mod.set1 _ b 6 v6)).trans (Mod.set1 _ b 7 v7)).trans (Mod.set1 _ b 8 v8)).trans (Mod.set1 _ b 9 v9)).trans (Mod.set1 _ b 10 v10)).trans (Mod.set1 _ b 11 v11)).trans (Mod.set1 _ b 12 v12)

/-- while Next reads: the result's cells, the reader, what was there -/
def NextT (w : World) (rb : Nat) (r : Rd) (U : World) : Prop := U.heap[w.heap.size]? = some (.cells #[.int .u16 0, .int .u32 0, .int .u8 0, .int .u32 0, .int .u64 0, .int .u32 0, .int .u32 0, .int .u32 0, .int .u64 0, .string { data := #[] }, .string { data := #[] }, .string { data := #[] }, .string { data := #[] }] 31 (0, 0)) ∧ U.heap[rb]? = some (rdO r) ∧ Mod (fun _ => False) w U
theorem rd_ok_num {r : Rd} {k : Nat} {y : Nat × Rd} (h : r.num k = y) (hr : r.s.size ≤ maxLen ∧ r.at_ ≤ r.s.size) : y.2.s.size ≤ maxLen ∧ y.2.at_ ≤ y.2.s.size := by
  subst h
  exact ⟨by rw [Rd.num_s]; exact hr.1, Rd.num_at _ _ hr.2⟩
theorem NextT.rd {w : World} {rb : Nat} {r r' : Rd} {U V : World} (h : NextT w rb r U) (h2 : V.heap[rb]? = some (rdO r')) (m : Mod (· = rb) U V) (h1 : w.heap.size ≠ rb) (h3 : w.heap.size ≤ rb) : NextT w rb r' V :=
  ⟨(m.block _ (lt_of h.1) h1).trans h.1, h2, h.2.2.trans' m (fun k hk e => by omega)⟩
theorem NextT.keep {w : World} {rb : Nat} {r : Rd} {S : Nat → Prop} {U V : World} (h : NextT w rb r U) (m : Mod S U V) (hS : ∀ k, S k → rb < k) (h1 : w.heap.size < rb) : NextT w rb r V :=
  ⟨(m.block _ (lt_of h.1) (fun x => by have := hS _ x; omega)).trans h.1, (m.block _ (lt_of h.2.1) (fun x => by have := hS _ x; omega)).trans h.2.1, h.2.2.trans' m (fun k hk e => by have := hS _ e; omega)⟩

/-- the stat's cells when so many texts are read -/
def stC (q : Rd) (ns : Array Value) (k : Nat) : Array Value :=
  ns ++ #[.string (if 0 < k then (q.tq 0).text.1 else { data := #[] }), .string (if 1 < k then (q.tq 1).text.1 else { data := #[] }), .string (if 2 < k then (q.tq 2).text.1 else { data := #[] }), .string (if 3 < k then (q.tq 3).text.1 else { data := #[] })]


set_option maxRecDepth 100000 in
set_option maxHeartbeats 4000000 in
theorem next_any (b : ByteArray) (w : World) (hb : b.size ≤ maxLen) :
    Calls Tryz.prog 141 #[.string b] w fun e w' => e = .returned (.tuple #[(nextS b).1.v, .int .i64 (nextS b).2.1, .int .i64 (nextS b).2.2]) ∧ Mod (fun _ => False) w w' := by
  obtain ⟨W, hW⟩ : ∃ W, w.alloc (.cells #[.int .u16 0, .int .u32 0, .int .u8 0, .int .u32 0, .int .u64 0, .int .u32 0, .int .u32 0, .int .u32 0, .int .u64 0, .string { data := #[] }, .string { data := #[] }, .string { data := #[] }, .string { data := #[] }] 31) = W := ⟨_, rfl⟩
  have hz : W.heap[w.heap.size]? = some (.cells #[.int .u16 0, .int .u32 0, .int .u8 0, .int .u32 0, .int .u64 0, .int .u32 0, .int .u32 0, .int .u32 0, .int .u64 0, .string { data := #[] }, .string { data := #[] }, .string { data := #[] }, .string { data := #[] }] 31 (0, 0)) := by subst hW; exact new_at _ _
  have hm : Mod (fun _ => False) w W := by subst hW; exact (Mod.refl _ w).alloc _
  have hsz : W.heap.size = w.heap.size + 1 := by subst hW; simp
  obtain ⟨n1, hn1⟩ : ∃ x, (Rd.mk b 0 0).num 2 = x := ⟨_, rfl⟩
  have hn1s : n1.2.s = b := by rw [← hn1]; exact Rd.num_s _ 2
  have hn1a : n1.2.at_ ≤ n1.2.s.size := by rw [← hn1]; exact Rd.num_at _ 2 (Nat.zero_le _)
  have hn1l : n1.1 < 65536 := by rw [← hn1]; exact Rd.num_lt _ 2
  obtain ⟨n2, hn2⟩ : ∃ x, n1.2.bytes n1.1 = x := ⟨_, rfl⟩
  have hn2s : n2.1.size ≤ 65535 := by rw [← hn2]; have := Rd.bytes_size_le n1.2 n1.1; omega
  have hNv := Lib.hid (show nextS b = if n2.2.f ≠ 0 then (St.zero, 0, 50) else if ((St.nq ⟨n2.1, 0, 0⟩).tq 4).end_ ≠ 0 then (St.zero, 0, 51) else (St.read ⟨n2.1, 0, 0⟩, n2.2.at_, 0) from by unfold nextS; rw [hn1, hn2])
  obtain ⟨q0, hq0⟩ : ∃ x, Rd.mk n2.1 0 0 = x := ⟨_, rfl⟩
  have hl0 : q0.s.size ≤ maxLen ∧ q0.at_ ≤ q0.s.size := by subst hq0; exact ⟨by unfold maxLen; show n2.1.size ≤ _; omega, Nat.zero_le _⟩
  obtain ⟨y1, hy1⟩ : ∃ x, (q0).num 2 = x := ⟨_, rfl⟩
  have hl1 := rd_ok_num hy1 hl0
  obtain ⟨y2, hy2⟩ : ∃ x, (y1.2).num 4 = x := ⟨_, rfl⟩
  have hl2 := rd_ok_num hy2 hl1
  obtain ⟨y3, hy3⟩ : ∃ x, (y2.2).num 1 = x := ⟨_, rfl⟩
  have hl3 := rd_ok_num hy3 hl2
  obtain ⟨y4, hy4⟩ : ∃ x, (y3.2).num 4 = x := ⟨_, rfl⟩
  have hl4 := rd_ok_num hy4 hl3
  obtain ⟨y5, hy5⟩ : ∃ x, (y4.2).num 8 = x := ⟨_, rfl⟩
  have hl5 := rd_ok_num hy5 hl4
  obtain ⟨y6, hy6⟩ : ∃ x, (y5.2).num 4 = x := ⟨_, rfl⟩
  have hl6 := rd_ok_num hy6 hl5
  obtain ⟨y7, hy7⟩ : ∃ x, (y6.2).num 4 = x := ⟨_, rfl⟩
  have hl7 := rd_ok_num hy7 hl6
  obtain ⟨y8, hy8⟩ : ∃ x, (y7.2).num 4 = x := ⟨_, rfl⟩
  have hl8 := rd_ok_num hy8 hl7
  obtain ⟨y9, hy9⟩ : ∃ x, (y8.2).num 8 = x := ⟨_, rfl⟩
  have hl9 := rd_ok_num hy9 hl8
  have hrd : St.read q0 = ⟨y1.1, y2.1, y3.1, y4.1, y5.1, y6.1, y7.1, y8.1, y9.1, (y9.2.tq 0).text.1, (y9.2.tq 1).text.1, (y9.2.tq 2).text.1, (y9.2.tq 3).text.1⟩ := by simp only [St.read, hy1, hy2, hy3, hy4, hy5, hy6, hy7, hy8, hy9]
  have hrq : St.nq q0 = y9.2 := by simp only [St.nq, hy1, hy2, hy3, hy4, hy5, hy6, hy7, hy8, hy9]
  rw [hq0, hrd, hrq] at hNv
  have hf1 := fun b2 sb cs e0 U => fill_uint16 b2 sb 0 (q0) cs e0 U
  rw [hy1] at hf1
  have hf2 := fun b2 sb cs e0 U => fill_uint32 b2 sb 1 (y1.2) cs e0 U
  rw [hy2] at hf2
  have hf3 := fun b2 sb cs e0 U => fill_uint8 b2 sb 2 (y2.2) cs e0 U
  rw [hy3] at hf3
  have hf4 := fun b2 sb cs e0 U => fill_uint32 b2 sb 3 (y3.2) cs e0 U
  rw [hy4] at hf4
  have hf5 := fun b2 sb cs e0 U => fill_uint64 b2 sb 4 (y4.2) cs e0 U
  rw [hy5] at hf5
  have hf6 := fun b2 sb cs e0 U => fill_uint32 b2 sb 5 (y5.2) cs e0 U
  rw [hy6] at hf6
  have hf7 := fun b2 sb cs e0 U => fill_uint32 b2 sb 6 (y6.2) cs e0 U
  rw [hy7] at hf7
  have hf8 := fun b2 sb cs e0 U => fill_uint32 b2 sb 7 (y7.2) cs e0 U
  rw [hy8] at hf8
  have hf9 := fun b2 sb cs e0 U => fill_uint64 b2 sb 8 (y8.2) cs e0 U
  rw [hy9] at hf9
  have hY := Lib.hid (hl9)
  clear hrd hrq hy1 hy2 hy3 hy4 hy5 hy6 hy7 hy8 hy9
  have hU16 := fun p U h => U16_any p (Rd.mk b 0 0) U h hb (Nat.zero_le _)
  have hBy := fun p U h => bytes_any p n1.2 n1.1 U h (by rw [hn1s]; exact hb) hn1a
  rw [hn1] at hU16
  rw [hn2] at hBy
  go_enter Tryz.func141, Tryz.ntmps141
  go_wp2_with fail
  refine (new_any b _).mono ?_
  rintro e w1 ⟨rfl, h1, m1⟩
  obtain ⟨rb, hrb⟩ : ∃ rb, W.heap.size = rb := ⟨_, rfl⟩
  rw [hrb] at h1 ⊢
  have hrb' : w.heap.size < rb := by omega
  have hT1 : NextT w rb (Rd.mk b 0 0) w1 := ⟨(m1.block _ (lt_of hz) (fun x => x)).trans hz, h1, hm.trans m1⟩
  have HT := Lib.hid hT1
  clear h1 m1 hT1 hW hm hrb hsz hz
  go_wp2_with fail
  refine (hU16 rb _ HT.out.2.1).mono ?_
  rintro e w2 ⟨rfl, h2, m2⟩
  have HT2 := Lib.hid (HT.out.rd h2 m2 (by omega) (by omega))
  clear h2 m2 HT
  have hcv : IntKind.i64.wrap (n1.1 : Int) = n1.1 := by rw [IntKind.wrap_i64]; omega
  go_wp2_with fail
  refine (hBy rb _ HT2.out.2.1).mono ?_
  rintro e w3 ⟨rfl, h3, m3⟩
  have HT := Lib.hid (HT2.out.rd h3 m3 (by omega) (by omega))
  clear h3 m3 HT2 hU16 hBy hcv
  go_wp2_with fail
  refine (fault_any rb n2.2 _ HT.out.2.1).mono ?_
  rintro e w5 ⟨rfl, rfl⟩
  by_cases hf : n2.2.f ≠ 0
  · have t1 : (n2.2.f != 0) = true := by simpa using hf
    have hv : nextS b = (St.zero, 0, 50) := by rw [hNv.out, if_pos hf]
    clear hf1 hf2 hf3 hf4 hf5 hf6 hf7 hf8 hf9
    have r0 : (w3).cell? ⟨w.heap.size, 0, none⟩ = some (.int .u16 0) := (cell_of (HT.out.1) 0).trans rfl
    have rf0 : (w3).frozen? ⟨w.heap.size, 0, none⟩ = false := free_of (HT.out.1) 0
    have r1 : (w3).cell? ⟨w.heap.size, 1, none⟩ = some (.int .u32 0) := (cell_of (HT.out.1) 1).trans rfl
    have rf1 : (w3).frozen? ⟨w.heap.size, 1, none⟩ = false := free_of (HT.out.1) 1
    have r2 : (w3).cell? ⟨w.heap.size, 2, none⟩ = some (.int .u8 0) := (cell_of (HT.out.1) 2).trans rfl
    have rf2 : (w3).frozen? ⟨w.heap.size, 2, none⟩ = false := free_of (HT.out.1) 2
    have r3 : (w3).cell? ⟨w.heap.size, 3, none⟩ = some (.int .u32 0) := (cell_of (HT.out.1) 3).trans rfl
    have rf3 : (w3).frozen? ⟨w.heap.size, 3, none⟩ = false := free_of (HT.out.1) 3
    have r4 : (w3).cell? ⟨w.heap.size, 4, none⟩ = some (.int .u64 0) := (cell_of (HT.out.1) 4).trans rfl
    have rf4 : (w3).frozen? ⟨w.heap.size, 4, none⟩ = false := free_of (HT.out.1) 4
    have r5 : (w3).cell? ⟨w.heap.size, 5, none⟩ = some (.int .u32 0) := (cell_of (HT.out.1) 5).trans rfl
    have rf5 : (w3).frozen? ⟨w.heap.size, 5, none⟩ = false := free_of (HT.out.1) 5
    have r6 : (w3).cell? ⟨w.heap.size, 6, none⟩ = some (.int .u32 0) := (cell_of (HT.out.1) 6).trans rfl
    have rf6 : (w3).frozen? ⟨w.heap.size, 6, none⟩ = false := free_of (HT.out.1) 6
    have r7 : (w3).cell? ⟨w.heap.size, 7, none⟩ = some (.int .u32 0) := (cell_of (HT.out.1) 7).trans rfl
    have rf7 : (w3).frozen? ⟨w.heap.size, 7, none⟩ = false := free_of (HT.out.1) 7
    have r8 : (w3).cell? ⟨w.heap.size, 8, none⟩ = some (.int .u64 0) := (cell_of (HT.out.1) 8).trans rfl
    have rf8 : (w3).frozen? ⟨w.heap.size, 8, none⟩ = false := free_of (HT.out.1) 8
    have r9 : (w3).cell? ⟨w.heap.size, 9, none⟩ = some (.string { data := #[] }) := (cell_of (HT.out.1) 9).trans rfl
    have rf9 : (w3).frozen? ⟨w.heap.size, 9, none⟩ = false := free_of (HT.out.1) 9
    have r10 : (w3).cell? ⟨w.heap.size, 10, none⟩ = some (.string { data := #[] }) := (cell_of (HT.out.1) 10).trans rfl
    have rf10 : (w3).frozen? ⟨w.heap.size, 10, none⟩ = false := free_of (HT.out.1) 10
    have r11 : (w3).cell? ⟨w.heap.size, 11, none⟩ = some (.string { data := #[] }) := (cell_of (HT.out.1) 11).trans rfl
    have rf11 : (w3).frozen? ⟨w.heap.size, 11, none⟩ = false := free_of (HT.out.1) 11
    have r12 : (w3).cell? ⟨w.heap.size, 12, none⟩ = some (.string { data := #[] }) := (cell_of (HT.out.1) 12).trans rfl
    have rf12 : (w3).frozen? ⟨w.heap.size, 12, none⟩ = false := free_of (HT.out.1) 12
    go_wp2
    obtain ⟨W6, hW6⟩ : ∃ W6, ((((((((((((((w3).setCell ⟨w.heap.size, 0, none⟩ (.int .u16 0)).setCell ⟨w.heap.size, 1, none⟩ (.int .u32 0)).setCell ⟨w.heap.size, 2, none⟩ (.int .u8 0)).setCell ⟨w.heap.size, 3, none⟩ (.int .u32 0)).setCell ⟨w.heap.size, 4, none⟩ (.int .u64 0)).setCell ⟨w.heap.size, 5, none⟩ (.int .u32 0)).setCell ⟨w.heap.size, 6, none⟩ (.int .u32 0)).setCell ⟨w.heap.size, 7, none⟩ (.int .u32 0)).setCell ⟨w.heap.size, 8, none⟩ (.int .u64 0)).setCell ⟨w.heap.size, 9, none⟩ (.string { data := #[] })).setCell ⟨w.heap.size, 10, none⟩ (.string { data := #[] })).setCell ⟨w.heap.size, 11, none⟩ (.string { data := #[] })).setCell ⟨w.heap.size, 12, none⟩ (.string { data := #[] })) = W6 := ⟨_, rfl⟩
    have h6 : W6.heap[w.heap.size]? = some (.cells #[.int .u16 0, .int .u32 0, .int .u8 0, .int .u32 0, .int .u64 0, .int .u32 0, .int .u32 0, .int .u32 0, .int .u64 0, .string { data := #[] }, .string { data := #[] }, .string { data := #[] }, .string { data := #[] }] 31 (0, 0)) := by
      subst hW6
      exact set13 (HT.out.1) (.int .u16 0) (.int .u32 0) (.int .u8 0) (.int .u32 0) (.int .u64 0) (.int .u32 0) (.int .u32 0) (.int .u32 0) (.int .u64 0) (.string { data := #[] }) (.string { data := #[] }) (.string { data := #[] }) (.string { data := #[] })
    have hm6 : Mod (· = w.heap.size) (w3) W6 := by
      subst hW6
      exact mod13 (w3) w.heap.size (.int .u16 0) (.int .u32 0) (.int .u8 0) (.int .u32 0) (.int .u64 0) (.int .u32 0) (.int .u32 0) (.int .u32 0) (.int .u64 0) (.string { data := #[] }) (.string { data := #[] }) (.string { data := #[] }) (.string { data := #[] })
    rw [hW6]
    have z0 : W6.cell? ⟨w.heap.size, 0, none⟩ = some (.int .u16 0) := (cell_of h6 0).trans rfl
    have z1 : W6.cell? ⟨w.heap.size, 1, none⟩ = some (.int .u32 0) := (cell_of h6 1).trans rfl
    have z2 : W6.cell? ⟨w.heap.size, 2, none⟩ = some (.int .u8 0) := (cell_of h6 2).trans rfl
    have z3 : W6.cell? ⟨w.heap.size, 3, none⟩ = some (.int .u32 0) := (cell_of h6 3).trans rfl
    have z4 : W6.cell? ⟨w.heap.size, 4, none⟩ = some (.int .u64 0) := (cell_of h6 4).trans rfl
    have z5 : W6.cell? ⟨w.heap.size, 5, none⟩ = some (.int .u32 0) := (cell_of h6 5).trans rfl
    have z6 : W6.cell? ⟨w.heap.size, 6, none⟩ = some (.int .u32 0) := (cell_of h6 6).trans rfl
    have z7 : W6.cell? ⟨w.heap.size, 7, none⟩ = some (.int .u32 0) := (cell_of h6 7).trans rfl
    have z8 : W6.cell? ⟨w.heap.size, 8, none⟩ = some (.int .u64 0) := (cell_of h6 8).trans rfl
    have z9 : W6.cell? ⟨w.heap.size, 9, none⟩ = some (.string { data := #[] }) := (cell_of h6 9).trans rfl
    have z10 : W6.cell? ⟨w.heap.size, 10, none⟩ = some (.string { data := #[] }) := (cell_of h6 10).trans rfl
    have z11 : W6.cell? ⟨w.heap.size, 11, none⟩ = some (.string { data := #[] }) := (cell_of h6 11).trans rfl
    have z12 : W6.cell? ⟨w.heap.size, 12, none⟩ = some (.string { data := #[] }) := (cell_of h6 12).trans rfl
    clear hW6
    refine bodyPost_ret (v := .tuple #[.agg #[.int .u16 0, .int .u32 0, .int .u8 0, .int .u32 0, .int .u64 0, .int .u32 0, .int .u32 0, .int .u32 0, .int .u64 0, .string { data := #[] }, .string { data := #[] }, .string { data := #[] }, .string { data := #[] }], .int .i64 0, .int .i64 50]) ?_ rfl ⟨by rw [hv]; rfl, HT.out.2.2.trans' hm6 (fun j hj e => by omega)⟩
    simp [results, Tryz.f141, go_sem, z0, z1, z2, z3, z4, z5, z6, z7, z8, z9, z10, z11, z12]
  · have t1 : (n2.2.f != 0) = false := by simp at hf ⊢; exact hf
    obtain ⟨W4, hW4⟩ : ∃ W4, w3.alloc (.cells #[.int .u16 0, .int .u32 0, .int .u8 0, .int .u32 0, .int .u64 0, .int .u32 0, .int .u32 0, .int .u32 0, .int .u64 0, .string { data := #[] }, .string { data := #[] }, .string { data := #[] }, .string { data := #[] }] 31) = W4 := ⟨_, rfl⟩
    have hC4 : W4.heap[w3.heap.size]? = some (.cells #[.int .u16 0, .int .u32 0, .int .u8 0, .int .u32 0, .int .u64 0, .int .u32 0, .int .u32 0, .int .u32 0, .int .u64 0, .string { data := #[] }, .string { data := #[] }, .string { data := #[] }, .string { data := #[] }] 31 (0, 0)) := by subst hW4; exact new_at _ _
    have hm4 : Mod (fun _ => False) w3 W4 := by subst hW4; exact (Mod.refl _ _).alloc _
    have HT4 := Lib.hid (HT.out.keep hm4 (fun _ x => x.elim) hrb')
    have hsb : rb < w3.heap.size := lt_of HT.out.2.1
    obtain ⟨sb, hsb'⟩ : ∃ sb, w3.heap.size = sb := ⟨_, rfl⟩
    rw [hsb'] at hC4 hsb
    go_wp2_with fail
    refine (new_any n2.1 _).mono ?_
    rintro e w5 ⟨rfl, h5, m5⟩
    have hb2 : sb < W4.heap.size := lt_of hC4
    obtain ⟨b2, hb2'⟩ : ∃ b2, W4.heap.size = b2 := ⟨_, rfl⟩
    rw [hb2'] at h5 hb2 ⊢
    have HC := Lib.hid ((m5.block _ (lt_of hC4) (fun x => x)).trans hC4)
    have HQ := Lib.hid h5
    rw [hq0] at HQ
    have HT := Lib.hid (HT4.out.keep m5 (fun _ x => x.elim) hrb')
    have hne : sb ≠ b2 := by omega
    have hS : ∀ k, (k = b2 ∨ k = sb) → rb < k := fun k h => by omega
    clear HT4 hC4 hm4 hW4 hsb' hb2' h5 m5 hq0
    go_wp2_with fail
    refine (hf1 b2 sb _ _ _ HQ.out hl0.1 hl0.2 HC.out (by simp) hne).mono ?_
    rintro e v1 ⟨rfl, h1, h2, m1⟩
    have HQ := Lib.hid h1
    have HC : Hid (v1.heap[sb]? = some (.cells #[.int .u16 y1.1, .int .u32 0, .int .u8 0, .int .u32 0, .int .u64 0, .int .u32 0, .int .u32 0, .int .u32 0, .int .u64 0, .string { data := #[] }, .string { data := #[] }, .string { data := #[] }, .string { data := #[] }] 31 (0, 0))) := h2
    have HT := Lib.hid (HT.out.keep m1 hS hrb')
    clear h1 h2 m1 hf1 hl0
    go_wp2_with fail
    refine (hf2 b2 sb _ _ _ HQ.out hl1.1 hl1.2 HC.out (by simp) hne).mono ?_
    rintro e v2 ⟨rfl, h1, h2, m1⟩
    have HQ := Lib.hid h1
    have HC : Hid (v2.heap[sb]? = some (.cells #[.int .u16 y1.1, .int .u32 y2.1, .int .u8 0, .int .u32 0, .int .u64 0, .int .u32 0, .int .u32 0, .int .u32 0, .int .u64 0, .string { data := #[] }, .string { data := #[] }, .string { data := #[] }, .string { data := #[] }] 31 (0, 0))) := h2
    have HT := Lib.hid (HT.out.keep m1 hS hrb')
    clear h1 h2 m1 hf2 hl1
    go_wp2_with fail
    refine (hf3 b2 sb _ _ _ HQ.out hl2.1 hl2.2 HC.out (by simp) hne).mono ?_
    rintro e v3 ⟨rfl, h1, h2, m1⟩
    have HQ := Lib.hid h1
    have HC : Hid (v3.heap[sb]? = some (.cells #[.int .u16 y1.1, .int .u32 y2.1, .int .u8 y3.1, .int .u32 0, .int .u64 0, .int .u32 0, .int .u32 0, .int .u32 0, .int .u64 0, .string { data := #[] }, .string { data := #[] }, .string { data := #[] }, .string { data := #[] }] 31 (0, 0))) := h2
    have HT := Lib.hid (HT.out.keep m1 hS hrb')
    clear h1 h2 m1 hf3 hl2
    go_wp2_with fail
    refine (hf4 b2 sb _ _ _ HQ.out hl3.1 hl3.2 HC.out (by simp) hne).mono ?_
    rintro e v4 ⟨rfl, h1, h2, m1⟩
    have HQ := Lib.hid h1
    have HC : Hid (v4.heap[sb]? = some (.cells #[.int .u16 y1.1, .int .u32 y2.1, .int .u8 y3.1, .int .u32 y4.1, .int .u64 0, .int .u32 0, .int .u32 0, .int .u32 0, .int .u64 0, .string { data := #[] }, .string { data := #[] }, .string { data := #[] }, .string { data := #[] }] 31 (0, 0))) := h2
    have HT := Lib.hid (HT.out.keep m1 hS hrb')
    clear h1 h2 m1 hf4 hl3
    go_wp2_with fail
    refine (hf5 b2 sb _ _ _ HQ.out hl4.1 hl4.2 HC.out (by simp) hne).mono ?_
    rintro e v5 ⟨rfl, h1, h2, m1⟩
    have HQ := Lib.hid h1
    have HC : Hid (v5.heap[sb]? = some (.cells #[.int .u16 y1.1, .int .u32 y2.1, .int .u8 y3.1, .int .u32 y4.1, .int .u64 y5.1, .int .u32 0, .int .u32 0, .int .u32 0, .int .u64 0, .string { data := #[] }, .string { data := #[] }, .string { data := #[] }, .string { data := #[] }] 31 (0, 0))) := h2
    have HT := Lib.hid (HT.out.keep m1 hS hrb')
    clear h1 h2 m1 hf5 hl4
    go_wp2_with fail
    refine (hf6 b2 sb _ _ _ HQ.out hl5.1 hl5.2 HC.out (by simp) hne).mono ?_
    rintro e v6 ⟨rfl, h1, h2, m1⟩
    have HQ := Lib.hid h1
    have HC : Hid (v6.heap[sb]? = some (.cells #[.int .u16 y1.1, .int .u32 y2.1, .int .u8 y3.1, .int .u32 y4.1, .int .u64 y5.1, .int .u32 y6.1, .int .u32 0, .int .u32 0, .int .u64 0, .string { data := #[] }, .string { data := #[] }, .string { data := #[] }, .string { data := #[] }] 31 (0, 0))) := h2
    have HT := Lib.hid (HT.out.keep m1 hS hrb')
    clear h1 h2 m1 hf6 hl5
    go_wp2_with fail
    refine (hf7 b2 sb _ _ _ HQ.out hl6.1 hl6.2 HC.out (by simp) hne).mono ?_
    rintro e v7 ⟨rfl, h1, h2, m1⟩
    have HQ := Lib.hid h1
    have HC : Hid (v7.heap[sb]? = some (.cells #[.int .u16 y1.1, .int .u32 y2.1, .int .u8 y3.1, .int .u32 y4.1, .int .u64 y5.1, .int .u32 y6.1, .int .u32 y7.1, .int .u32 0, .int .u64 0, .string { data := #[] }, .string { data := #[] }, .string { data := #[] }, .string { data := #[] }] 31 (0, 0))) := h2
    have HT := Lib.hid (HT.out.keep m1 hS hrb')
    clear h1 h2 m1 hf7 hl6
    go_wp2_with fail
    refine (hf8 b2 sb _ _ _ HQ.out hl7.1 hl7.2 HC.out (by simp) hne).mono ?_
    rintro e v8 ⟨rfl, h1, h2, m1⟩
    have HQ := Lib.hid h1
    have HC : Hid (v8.heap[sb]? = some (.cells #[.int .u16 y1.1, .int .u32 y2.1, .int .u8 y3.1, .int .u32 y4.1, .int .u64 y5.1, .int .u32 y6.1, .int .u32 y7.1, .int .u32 y8.1, .int .u64 0, .string { data := #[] }, .string { data := #[] }, .string { data := #[] }, .string { data := #[] }] 31 (0, 0))) := h2
    have HT := Lib.hid (HT.out.keep m1 hS hrb')
    clear h1 h2 m1 hf8 hl7
    go_wp2_with fail
    refine (hf9 b2 sb _ _ _ HQ.out hl8.1 hl8.2 HC.out (by simp) hne).mono ?_
    rintro e v9 ⟨rfl, h1, h2, m1⟩
    have HQ := Lib.hid h1
    have HC : Hid (v9.heap[sb]? = some (.cells #[.int .u16 y1.1, .int .u32 y2.1, .int .u8 y3.1, .int .u32 y4.1, .int .u64 y5.1, .int .u32 y6.1, .int .u32 y7.1, .int .u32 y8.1, .int .u64 y9.1, .string { data := #[] }, .string { data := #[] }, .string { data := #[] }, .string { data := #[] }] 31 (0, 0))) := h2
    have HT := Lib.hid (HT.out.keep m1 hS hrb')
    clear h1 h2 m1 hf9 hl8
    go_wp2
    go_loopw [10, 68] (fun _ i wr => ∃ k : Nat, k ≤ 4 ∧ i = .int .i64 k ∧ Hid (NextT w rb n2.2 wr) ∧ Hid (wr.heap[b2]? = some (rdO (y9.2.tq k))) ∧ Hid (wr.heap[sb]? = some (.cells (stC y9.2 #[.int .u16 y1.1, .int .u32 y2.1, .int .u8 y3.1, .int .u32 y4.1, .int .u64 y5.1, .int .u32 y6.1, .int .u32 y7.1, .int .u32 y8.1, .int .u64 y9.1] k) 31 (0, 0)))) (fun _ i _ => 4 - (intOf i).toNat)
    case atStart => exact ⟨0, by omega, rfl, HT, HQ, HC⟩
    case round =>
      obtain ⟨k, hk4, rfl, HTk, HQk, HCk⟩ := hrel
      by_cases hlt : k < 4
      · obtain ⟨k', hk'⟩ : ∃ k', k' = k + 1 := ⟨_, rfl⟩
        rcases (show k = 0 ∨ k = 1 ∨ k = 2 ∨ k = 3 from by omega) with rfl | rfl | rfl | rfl
        · have hi := fun w => idx4p (some ⟨sb, 9, none⟩) (some ⟨sb, 10, none⟩) (some ⟨sb, 11, none⟩) (some ⟨sb, 12, none⟩) 0 hlt w
          simp at hi
          go_wp2_with fail
          refine (fill_string b2 sb (9 + 0) (y9.2.tq 0) _ _ _ HQk.out (by rw [Rd.tq_s]; exact hY.out.1) (Rd.tq_at _ _ hY.out.2) HCk.out (by simp [stC]) hne).mono ?_
          rintro e w6 ⟨rfl, h1, h2, m1⟩
          have HQ6 := Lib.hid h1
          have HC6 : Hid (w6.heap[sb]? = some (.cells (stC y9.2 #[.int .u16 y1.1, .int .u32 y2.1, .int .u8 y3.1, .int .u32 y4.1, .int .u64 y5.1, .int .u32 y6.1, .int .u32 y7.1, .int .u32 y8.1, .int .u64 y9.1] (0 + 1)) 31 (0, 0))) := h2
          have HT6 := Lib.hid (HTk.out.keep m1 hS hrb')
          clear h1 h2 m1
          go_wp2
          go_roundw
          case rel => exact ⟨k', by omega, by subst hk'; go_num, HT6, by subst hk'; exact HQ6, by subst hk'; exact HC6⟩
          case measure => simp [intOf]
        · have hi := fun w => idx4p (some ⟨sb, 9, none⟩) (some ⟨sb, 10, none⟩) (some ⟨sb, 11, none⟩) (some ⟨sb, 12, none⟩) 1 hlt w
          simp at hi
          go_wp2_with fail
          refine (fill_string b2 sb (9 + 1) (y9.2.tq 1) _ _ _ HQk.out (by rw [Rd.tq_s]; exact hY.out.1) (Rd.tq_at _ _ hY.out.2) HCk.out (by simp [stC]) hne).mono ?_
          rintro e w6 ⟨rfl, h1, h2, m1⟩
          have HQ6 := Lib.hid h1
          have HC6 : Hid (w6.heap[sb]? = some (.cells (stC y9.2 #[.int .u16 y1.1, .int .u32 y2.1, .int .u8 y3.1, .int .u32 y4.1, .int .u64 y5.1, .int .u32 y6.1, .int .u32 y7.1, .int .u32 y8.1, .int .u64 y9.1] (1 + 1)) 31 (0, 0))) := h2
          have HT6 := Lib.hid (HTk.out.keep m1 hS hrb')
          clear h1 h2 m1
          go_wp2
          go_roundw
          case rel => exact ⟨k', by omega, by subst hk'; go_num, HT6, by subst hk'; exact HQ6, by subst hk'; exact HC6⟩
          case measure => simp [intOf]
        · have hi := fun w => idx4p (some ⟨sb, 9, none⟩) (some ⟨sb, 10, none⟩) (some ⟨sb, 11, none⟩) (some ⟨sb, 12, none⟩) 2 hlt w
          simp at hi
          go_wp2_with fail
          refine (fill_string b2 sb (9 + 2) (y9.2.tq 2) _ _ _ HQk.out (by rw [Rd.tq_s]; exact hY.out.1) (Rd.tq_at _ _ hY.out.2) HCk.out (by simp [stC]) hne).mono ?_
          rintro e w6 ⟨rfl, h1, h2, m1⟩
          have HQ6 := Lib.hid h1
          have HC6 : Hid (w6.heap[sb]? = some (.cells (stC y9.2 #[.int .u16 y1.1, .int .u32 y2.1, .int .u8 y3.1, .int .u32 y4.1, .int .u64 y5.1, .int .u32 y6.1, .int .u32 y7.1, .int .u32 y8.1, .int .u64 y9.1] (2 + 1)) 31 (0, 0))) := h2
          have HT6 := Lib.hid (HTk.out.keep m1 hS hrb')
          clear h1 h2 m1
          go_wp2
          go_roundw
          case rel => exact ⟨k', by omega, by subst hk'; go_num, HT6, by subst hk'; exact HQ6, by subst hk'; exact HC6⟩
          case measure => simp [intOf]
        · have hi := fun w => idx4p (some ⟨sb, 9, none⟩) (some ⟨sb, 10, none⟩) (some ⟨sb, 11, none⟩) (some ⟨sb, 12, none⟩) 3 hlt w
          simp at hi
          go_wp2_with fail
          refine (fill_string b2 sb (9 + 3) (y9.2.tq 3) _ _ _ HQk.out (by rw [Rd.tq_s]; exact hY.out.1) (Rd.tq_at _ _ hY.out.2) HCk.out (by simp [stC]) hne).mono ?_
          rintro e w6 ⟨rfl, h1, h2, m1⟩
          have HQ6 := Lib.hid h1
          have HC6 : Hid (w6.heap[sb]? = some (.cells (stC y9.2 #[.int .u16 y1.1, .int .u32 y2.1, .int .u8 y3.1, .int .u32 y4.1, .int .u64 y5.1, .int .u32 y6.1, .int .u32 y7.1, .int .u32 y8.1, .int .u64 y9.1] (3 + 1)) 31 (0, 0))) := h2
          have HT6 := Lib.hid (HTk.out.keep m1 hS hrb')
          clear h1 h2 m1
          go_wp2
          go_roundw
          case rel => exact ⟨k', by omega, by subst hk'; go_num, HT6, by subst hk'; exact HQ6, by subst hk'; exact HC6⟩
          case measure => simp [intOf]
      · obtain rfl : k = 4 := by omega
        rw [show ((4 : Nat) : Int) = (4 : Int) from rfl]
        have hE := fun U h => end_any b2 (y9.2.tq 4) U h (by rw [Rd.tq_s]; exact hY.out.1) (Rd.tq_at _ _ hY.out.2)
        have HCf : Hid (wr.heap[sb]? = some (.cells #[.int .u16 y1.1, .int .u32 y2.1, .int .u8 y3.1, .int .u32 y4.1, .int .u64 y5.1, .int .u32 y6.1, .int .u32 y7.1, .int .u32 y8.1, .int .u64 y9.1, .string (y9.2.tq 0).text.1, .string (y9.2.tq 1).text.1, .string (y9.2.tq 2).text.1, .string (y9.2.tq 3).text.1] 31 (0, 0))) := HCk.out
        clear HC HT HCk hS
        rw [if_neg hf] at hNv
        generalize (y9.2.tq 0).text.1 = s0 at *
        generalize (y9.2.tq 1).text.1 = s1 at *
        generalize (y9.2.tq 2).text.1 = s2 at *
        generalize (y9.2.tq 3).text.1 = s3 at *
        generalize (y9.2.tq 4) = qe at *
        go_wp2_with fail
        refine (hE _ HQk.out).mono ?_
        rintro e w6 ⟨rfl, nd, hw6⟩
        have HT6 : Hid (NextT w rb n2.2 w6) := by rw [hw6]; exact Lib.hid ⟨HTk.out.1, HTk.out.2.1, HTk.out.2.2.drewN nd⟩
        have HC6 : Hid (w6.heap[sb]? = some (.cells #[.int .u16 y1.1, .int .u32 y2.1, .int .u8 y3.1, .int .u32 y4.1, .int .u64 y5.1, .int .u32 y6.1, .int .u32 y7.1, .int .u32 y8.1, .int .u64 y9.1, .string s0, .string s1, .string s2, .string s3] 31 (0, 0))) := by rw [hw6]; exact HCf.out
        clear hw6
        clear HCf hE HQk HQ
        by_cases hen : qe.end_ ≠ 0
        · have t2 : (qe.end_ != 0) = true := by simpa using hen
          have hv : nextS b = (St.zero, 0, 51) := by rw [hNv.out, if_pos hen]
          have r0 : (w6).cell? ⟨w.heap.size, 0, none⟩ = some (.int .u16 0) := (cell_of (HT6.out.1) 0).trans rfl
          have rf0 : (w6).frozen? ⟨w.heap.size, 0, none⟩ = false := free_of (HT6.out.1) 0
          have r1 : (w6).cell? ⟨w.heap.size, 1, none⟩ = some (.int .u32 0) := (cell_of (HT6.out.1) 1).trans rfl
          have rf1 : (w6).frozen? ⟨w.heap.size, 1, none⟩ = false := free_of (HT6.out.1) 1
          have r2 : (w6).cell? ⟨w.heap.size, 2, none⟩ = some (.int .u8 0) := (cell_of (HT6.out.1) 2).trans rfl
          have rf2 : (w6).frozen? ⟨w.heap.size, 2, none⟩ = false := free_of (HT6.out.1) 2
          have r3 : (w6).cell? ⟨w.heap.size, 3, none⟩ = some (.int .u32 0) := (cell_of (HT6.out.1) 3).trans rfl
          have rf3 : (w6).frozen? ⟨w.heap.size, 3, none⟩ = false := free_of (HT6.out.1) 3
          have r4 : (w6).cell? ⟨w.heap.size, 4, none⟩ = some (.int .u64 0) := (cell_of (HT6.out.1) 4).trans rfl
          have rf4 : (w6).frozen? ⟨w.heap.size, 4, none⟩ = false := free_of (HT6.out.1) 4
          have r5 : (w6).cell? ⟨w.heap.size, 5, none⟩ = some (.int .u32 0) := (cell_of (HT6.out.1) 5).trans rfl
          have rf5 : (w6).frozen? ⟨w.heap.size, 5, none⟩ = false := free_of (HT6.out.1) 5
          have r6 : (w6).cell? ⟨w.heap.size, 6, none⟩ = some (.int .u32 0) := (cell_of (HT6.out.1) 6).trans rfl
          have rf6 : (w6).frozen? ⟨w.heap.size, 6, none⟩ = false := free_of (HT6.out.1) 6
          have r7 : (w6).cell? ⟨w.heap.size, 7, none⟩ = some (.int .u32 0) := (cell_of (HT6.out.1) 7).trans rfl
          have rf7 : (w6).frozen? ⟨w.heap.size, 7, none⟩ = false := free_of (HT6.out.1) 7
          have r8 : (w6).cell? ⟨w.heap.size, 8, none⟩ = some (.int .u64 0) := (cell_of (HT6.out.1) 8).trans rfl
          have rf8 : (w6).frozen? ⟨w.heap.size, 8, none⟩ = false := free_of (HT6.out.1) 8
          have r9 : (w6).cell? ⟨w.heap.size, 9, none⟩ = some (.string { data := #[] }) := (cell_of (HT6.out.1) 9).trans rfl
          have rf9 : (w6).frozen? ⟨w.heap.size, 9, none⟩ = false := free_of (HT6.out.1) 9
          have r10 : (w6).cell? ⟨w.heap.size, 10, none⟩ = some (.string { data := #[] }) := (cell_of (HT6.out.1) 10).trans rfl
          have rf10 : (w6).frozen? ⟨w.heap.size, 10, none⟩ = false := free_of (HT6.out.1) 10
          have r11 : (w6).cell? ⟨w.heap.size, 11, none⟩ = some (.string { data := #[] }) := (cell_of (HT6.out.1) 11).trans rfl
          have rf11 : (w6).frozen? ⟨w.heap.size, 11, none⟩ = false := free_of (HT6.out.1) 11
          have r12 : (w6).cell? ⟨w.heap.size, 12, none⟩ = some (.string { data := #[] }) := (cell_of (HT6.out.1) 12).trans rfl
          have rf12 : (w6).frozen? ⟨w.heap.size, 12, none⟩ = false := free_of (HT6.out.1) 12
          go_wp2
          obtain ⟨W6, hW6⟩ : ∃ W6, ((((((((((((((w6).setCell ⟨w.heap.size, 0, none⟩ (.int .u16 0)).setCell ⟨w.heap.size, 1, none⟩ (.int .u32 0)).setCell ⟨w.heap.size, 2, none⟩ (.int .u8 0)).setCell ⟨w.heap.size, 3, none⟩ (.int .u32 0)).setCell ⟨w.heap.size, 4, none⟩ (.int .u64 0)).setCell ⟨w.heap.size, 5, none⟩ (.int .u32 0)).setCell ⟨w.heap.size, 6, none⟩ (.int .u32 0)).setCell ⟨w.heap.size, 7, none⟩ (.int .u32 0)).setCell ⟨w.heap.size, 8, none⟩ (.int .u64 0)).setCell ⟨w.heap.size, 9, none⟩ (.string { data := #[] })).setCell ⟨w.heap.size, 10, none⟩ (.string { data := #[] })).setCell ⟨w.heap.size, 11, none⟩ (.string { data := #[] })).setCell ⟨w.heap.size, 12, none⟩ (.string { data := #[] })) = W6 := ⟨_, rfl⟩
          have h6 : W6.heap[w.heap.size]? = some (.cells #[.int .u16 0, .int .u32 0, .int .u8 0, .int .u32 0, .int .u64 0, .int .u32 0, .int .u32 0, .int .u32 0, .int .u64 0, .string { data := #[] }, .string { data := #[] }, .string { data := #[] }, .string { data := #[] }] 31 (0, 0)) := by
            subst hW6
            exact set13 (HT6.out.1) (.int .u16 0) (.int .u32 0) (.int .u8 0) (.int .u32 0) (.int .u64 0) (.int .u32 0) (.int .u32 0) (.int .u32 0) (.int .u64 0) (.string { data := #[] }) (.string { data := #[] }) (.string { data := #[] }) (.string { data := #[] })
          have hm6 : Mod (· = w.heap.size) (w6) W6 := by
            subst hW6
            exact mod13 (w6) w.heap.size (.int .u16 0) (.int .u32 0) (.int .u8 0) (.int .u32 0) (.int .u64 0) (.int .u32 0) (.int .u32 0) (.int .u32 0) (.int .u64 0) (.string { data := #[] }) (.string { data := #[] }) (.string { data := #[] }) (.string { data := #[] })
          rw [hW6]
          have z0 : W6.cell? ⟨w.heap.size, 0, none⟩ = some (.int .u16 0) := (cell_of h6 0).trans rfl
          have z1 : W6.cell? ⟨w.heap.size, 1, none⟩ = some (.int .u32 0) := (cell_of h6 1).trans rfl
          have z2 : W6.cell? ⟨w.heap.size, 2, none⟩ = some (.int .u8 0) := (cell_of h6 2).trans rfl
          have z3 : W6.cell? ⟨w.heap.size, 3, none⟩ = some (.int .u32 0) := (cell_of h6 3).trans rfl
          have z4 : W6.cell? ⟨w.heap.size, 4, none⟩ = some (.int .u64 0) := (cell_of h6 4).trans rfl
          have z5 : W6.cell? ⟨w.heap.size, 5, none⟩ = some (.int .u32 0) := (cell_of h6 5).trans rfl
          have z6 : W6.cell? ⟨w.heap.size, 6, none⟩ = some (.int .u32 0) := (cell_of h6 6).trans rfl
          have z7 : W6.cell? ⟨w.heap.size, 7, none⟩ = some (.int .u32 0) := (cell_of h6 7).trans rfl
          have z8 : W6.cell? ⟨w.heap.size, 8, none⟩ = some (.int .u64 0) := (cell_of h6 8).trans rfl
          have z9 : W6.cell? ⟨w.heap.size, 9, none⟩ = some (.string { data := #[] }) := (cell_of h6 9).trans rfl
          have z10 : W6.cell? ⟨w.heap.size, 10, none⟩ = some (.string { data := #[] }) := (cell_of h6 10).trans rfl
          have z11 : W6.cell? ⟨w.heap.size, 11, none⟩ = some (.string { data := #[] }) := (cell_of h6 11).trans rfl
          have z12 : W6.cell? ⟨w.heap.size, 12, none⟩ = some (.string { data := #[] }) := (cell_of h6 12).trans rfl
          clear hW6
          refine bodyPost_ret (v := .tuple #[.agg #[.int .u16 0, .int .u32 0, .int .u8 0, .int .u32 0, .int .u64 0, .int .u32 0, .int .u32 0, .int .u32 0, .int .u64 0, .string { data := #[] }, .string { data := #[] }, .string { data := #[] }, .string { data := #[] }], .int .i64 0, .int .i64 51]) ?_ rfl ⟨by rw [hv]; rfl, HT6.out.2.2.trans' hm6 (fun j hj e => by omega)⟩
          simp [results, Tryz.f141, go_sem, z0, z1, z2, z3, z4, z5, z6, z7, z8, z9, z10, z11, z12]
        · have t2 : (qe.end_ != 0) = false := by simp at hen ⊢; exact hen
          have hv := hNv.out.trans (if_neg hen)
          have hv := Lib.hid hv
          have HT7 : Hid (NextT w rb n2.2 w6.drew) := Lib.hid ⟨HT6.out.1, HT6.out.2.1, HT6.out.2.2.drew⟩
          have r0 : (w6.drew).cell? ⟨w.heap.size, 0, none⟩ = some (.int .u16 0) := (cell_of (HT7.out.1) 0).trans rfl
          have rf0 : (w6.drew).frozen? ⟨w.heap.size, 0, none⟩ = false := free_of (HT7.out.1) 0
          have r1 : (w6.drew).cell? ⟨w.heap.size, 1, none⟩ = some (.int .u32 0) := (cell_of (HT7.out.1) 1).trans rfl
          have rf1 : (w6.drew).frozen? ⟨w.heap.size, 1, none⟩ = false := free_of (HT7.out.1) 1
          have r2 : (w6.drew).cell? ⟨w.heap.size, 2, none⟩ = some (.int .u8 0) := (cell_of (HT7.out.1) 2).trans rfl
          have rf2 : (w6.drew).frozen? ⟨w.heap.size, 2, none⟩ = false := free_of (HT7.out.1) 2
          have r3 : (w6.drew).cell? ⟨w.heap.size, 3, none⟩ = some (.int .u32 0) := (cell_of (HT7.out.1) 3).trans rfl
          have rf3 : (w6.drew).frozen? ⟨w.heap.size, 3, none⟩ = false := free_of (HT7.out.1) 3
          have r4 : (w6.drew).cell? ⟨w.heap.size, 4, none⟩ = some (.int .u64 0) := (cell_of (HT7.out.1) 4).trans rfl
          have rf4 : (w6.drew).frozen? ⟨w.heap.size, 4, none⟩ = false := free_of (HT7.out.1) 4
          have r5 : (w6.drew).cell? ⟨w.heap.size, 5, none⟩ = some (.int .u32 0) := (cell_of (HT7.out.1) 5).trans rfl
          have rf5 : (w6.drew).frozen? ⟨w.heap.size, 5, none⟩ = false := free_of (HT7.out.1) 5
          have r6 : (w6.drew).cell? ⟨w.heap.size, 6, none⟩ = some (.int .u32 0) := (cell_of (HT7.out.1) 6).trans rfl
          have rf6 : (w6.drew).frozen? ⟨w.heap.size, 6, none⟩ = false := free_of (HT7.out.1) 6
          have r7 : (w6.drew).cell? ⟨w.heap.size, 7, none⟩ = some (.int .u32 0) := (cell_of (HT7.out.1) 7).trans rfl
          have rf7 : (w6.drew).frozen? ⟨w.heap.size, 7, none⟩ = false := free_of (HT7.out.1) 7
          have r8 : (w6.drew).cell? ⟨w.heap.size, 8, none⟩ = some (.int .u64 0) := (cell_of (HT7.out.1) 8).trans rfl
          have rf8 : (w6.drew).frozen? ⟨w.heap.size, 8, none⟩ = false := free_of (HT7.out.1) 8
          have r9 : (w6.drew).cell? ⟨w.heap.size, 9, none⟩ = some (.string { data := #[] }) := (cell_of (HT7.out.1) 9).trans rfl
          have rf9 : (w6.drew).frozen? ⟨w.heap.size, 9, none⟩ = false := free_of (HT7.out.1) 9
          have r10 : (w6.drew).cell? ⟨w.heap.size, 10, none⟩ = some (.string { data := #[] }) := (cell_of (HT7.out.1) 10).trans rfl
          have rf10 : (w6.drew).frozen? ⟨w.heap.size, 10, none⟩ = false := free_of (HT7.out.1) 10
          have r11 : (w6.drew).cell? ⟨w.heap.size, 11, none⟩ = some (.string { data := #[] }) := (cell_of (HT7.out.1) 11).trans rfl
          have rf11 : (w6.drew).frozen? ⟨w.heap.size, 11, none⟩ = false := free_of (HT7.out.1) 11
          have r12 : (w6.drew).cell? ⟨w.heap.size, 12, none⟩ = some (.string { data := #[] }) := (cell_of (HT7.out.1) 12).trans rfl
          have rf12 : (w6.drew).frozen? ⟨w.heap.size, 12, none⟩ = false := free_of (HT7.out.1) 12
          have r0 : (w6).cell? ⟨w.heap.size, 0, none⟩ = some (.int .u16 0) := (cell_of (HT6.out.1) 0).trans rfl
          have rf0 : (w6).frozen? ⟨w.heap.size, 0, none⟩ = false := free_of (HT6.out.1) 0
          have r1 : (w6).cell? ⟨w.heap.size, 1, none⟩ = some (.int .u32 0) := (cell_of (HT6.out.1) 1).trans rfl
          have rf1 : (w6).frozen? ⟨w.heap.size, 1, none⟩ = false := free_of (HT6.out.1) 1
          have r2 : (w6).cell? ⟨w.heap.size, 2, none⟩ = some (.int .u8 0) := (cell_of (HT6.out.1) 2).trans rfl
          have rf2 : (w6).frozen? ⟨w.heap.size, 2, none⟩ = false := free_of (HT6.out.1) 2
          have r3 : (w6).cell? ⟨w.heap.size, 3, none⟩ = some (.int .u32 0) := (cell_of (HT6.out.1) 3).trans rfl
          have rf3 : (w6).frozen? ⟨w.heap.size, 3, none⟩ = false := free_of (HT6.out.1) 3
          have r4 : (w6).cell? ⟨w.heap.size, 4, none⟩ = some (.int .u64 0) := (cell_of (HT6.out.1) 4).trans rfl
          have rf4 : (w6).frozen? ⟨w.heap.size, 4, none⟩ = false := free_of (HT6.out.1) 4
          have r5 : (w6).cell? ⟨w.heap.size, 5, none⟩ = some (.int .u32 0) := (cell_of (HT6.out.1) 5).trans rfl
          have rf5 : (w6).frozen? ⟨w.heap.size, 5, none⟩ = false := free_of (HT6.out.1) 5
          have r6 : (w6).cell? ⟨w.heap.size, 6, none⟩ = some (.int .u32 0) := (cell_of (HT6.out.1) 6).trans rfl
          have rf6 : (w6).frozen? ⟨w.heap.size, 6, none⟩ = false := free_of (HT6.out.1) 6
          have r7 : (w6).cell? ⟨w.heap.size, 7, none⟩ = some (.int .u32 0) := (cell_of (HT6.out.1) 7).trans rfl
          have rf7 : (w6).frozen? ⟨w.heap.size, 7, none⟩ = false := free_of (HT6.out.1) 7
          have r8 : (w6).cell? ⟨w.heap.size, 8, none⟩ = some (.int .u64 0) := (cell_of (HT6.out.1) 8).trans rfl
          have rf8 : (w6).frozen? ⟨w.heap.size, 8, none⟩ = false := free_of (HT6.out.1) 8
          have r9 : (w6).cell? ⟨w.heap.size, 9, none⟩ = some (.string { data := #[] }) := (cell_of (HT6.out.1) 9).trans rfl
          have rf9 : (w6).frozen? ⟨w.heap.size, 9, none⟩ = false := free_of (HT6.out.1) 9
          have r10 : (w6).cell? ⟨w.heap.size, 10, none⟩ = some (.string { data := #[] }) := (cell_of (HT6.out.1) 10).trans rfl
          have rf10 : (w6).frozen? ⟨w.heap.size, 10, none⟩ = false := free_of (HT6.out.1) 10
          have r11 : (w6).cell? ⟨w.heap.size, 11, none⟩ = some (.string { data := #[] }) := (cell_of (HT6.out.1) 11).trans rfl
          have rf11 : (w6).frozen? ⟨w.heap.size, 11, none⟩ = false := free_of (HT6.out.1) 11
          have r12 : (w6).cell? ⟨w.heap.size, 12, none⟩ = some (.string { data := #[] }) := (cell_of (HT6.out.1) 12).trans rfl
          have rf12 : (w6).frozen? ⟨w.heap.size, 12, none⟩ = false := free_of (HT6.out.1) 12
          have hSk : ∀ (U : World) (i : Nat) (v : Value), (U.cell? ⟨sb, 0, none⟩ = some (.int .u16 y1.1) ∧ U.cell? ⟨sb, 1, none⟩ = some (.int .u32 y2.1) ∧ U.cell? ⟨sb, 2, none⟩ = some (.int .u8 y3.1) ∧ U.cell? ⟨sb, 3, none⟩ = some (.int .u32 y4.1) ∧ U.cell? ⟨sb, 4, none⟩ = some (.int .u64 y5.1) ∧ U.cell? ⟨sb, 5, none⟩ = some (.int .u32 y6.1) ∧ U.cell? ⟨sb, 6, none⟩ = some (.int .u32 y7.1) ∧ U.cell? ⟨sb, 7, none⟩ = some (.int .u32 y8.1) ∧ U.cell? ⟨sb, 8, none⟩ = some (.int .u64 y9.1) ∧ U.cell? ⟨sb, 9, none⟩ = some (.string s0) ∧ U.cell? ⟨sb, 10, none⟩ = some (.string s1) ∧ U.cell? ⟨sb, 11, none⟩ = some (.string s2) ∧ U.cell? ⟨sb, 12, none⟩ = some (.string s3)) → ((U.setCell ⟨w.heap.size, i, none⟩ v).cell? ⟨sb, 0, none⟩ = some (.int .u16 y1.1) ∧ (U.setCell ⟨w.heap.size, i, none⟩ v).cell? ⟨sb, 1, none⟩ = some (.int .u32 y2.1) ∧ (U.setCell ⟨w.heap.size, i, none⟩ v).cell? ⟨sb, 2, none⟩ = some (.int .u8 y3.1) ∧ (U.setCell ⟨w.heap.size, i, none⟩ v).cell? ⟨sb, 3, none⟩ = some (.int .u32 y4.1) ∧ (U.setCell ⟨w.heap.size, i, none⟩ v).cell? ⟨sb, 4, none⟩ = some (.int .u64 y5.1) ∧ (U.setCell ⟨w.heap.size, i, none⟩ v).cell? ⟨sb, 5, none⟩ = some (.int .u32 y6.1) ∧ (U.setCell ⟨w.heap.size, i, none⟩ v).cell? ⟨sb, 6, none⟩ = some (.int .u32 y7.1) ∧ (U.setCell ⟨w.heap.size, i, none⟩ v).cell? ⟨sb, 7, none⟩ = some (.int .u32 y8.1) ∧ (U.setCell ⟨w.heap.size, i, none⟩ v).cell? ⟨sb, 8, none⟩ = some (.int .u64 y9.1) ∧ (U.setCell ⟨w.heap.size, i, none⟩ v).cell? ⟨sb, 9, none⟩ = some (.string s0) ∧ (U.setCell ⟨w.heap.size, i, none⟩ v).cell? ⟨sb, 10, none⟩ = some (.string s1) ∧ (U.setCell ⟨w.heap.size, i, none⟩ v).cell? ⟨sb, 11, none⟩ = some (.string s2) ∧ (U.setCell ⟨w.heap.size, i, none⟩ v).cell? ⟨sb, 12, none⟩ = some (.string s3)) := by
            intro U i v
            have hh : (U.setCell ⟨w.heap.size, i, none⟩ v).heap[sb]? = U.heap[sb]? := Below.heap_setCell _ _ _ _ (by show sb ≠ w.heap.size; omega)
            have hc : ∀ j, (U.setCell ⟨w.heap.size, i, none⟩ v).cell? ⟨sb, j, none⟩ = U.cell? ⟨sb, j, none⟩ := fun j => World.cell?_of_block (a := ⟨sb, j, none⟩) hh
            simp only [hc]
            exact fun h => h
          have hSd : ∀ (U : World), (U.cell? ⟨sb, 0, none⟩ = some (.int .u16 y1.1) ∧ U.cell? ⟨sb, 1, none⟩ = some (.int .u32 y2.1) ∧ U.cell? ⟨sb, 2, none⟩ = some (.int .u8 y3.1) ∧ U.cell? ⟨sb, 3, none⟩ = some (.int .u32 y4.1) ∧ U.cell? ⟨sb, 4, none⟩ = some (.int .u64 y5.1) ∧ U.cell? ⟨sb, 5, none⟩ = some (.int .u32 y6.1) ∧ U.cell? ⟨sb, 6, none⟩ = some (.int .u32 y7.1) ∧ U.cell? ⟨sb, 7, none⟩ = some (.int .u32 y8.1) ∧ U.cell? ⟨sb, 8, none⟩ = some (.int .u64 y9.1) ∧ U.cell? ⟨sb, 9, none⟩ = some (.string s0) ∧ U.cell? ⟨sb, 10, none⟩ = some (.string s1) ∧ U.cell? ⟨sb, 11, none⟩ = some (.string s2) ∧ U.cell? ⟨sb, 12, none⟩ = some (.string s3)) → (U.drew.cell? ⟨sb, 0, none⟩ = some (.int .u16 y1.1) ∧ U.drew.cell? ⟨sb, 1, none⟩ = some (.int .u32 y2.1) ∧ U.drew.cell? ⟨sb, 2, none⟩ = some (.int .u8 y3.1) ∧ U.drew.cell? ⟨sb, 3, none⟩ = some (.int .u32 y4.1) ∧ U.drew.cell? ⟨sb, 4, none⟩ = some (.int .u64 y5.1) ∧ U.drew.cell? ⟨sb, 5, none⟩ = some (.int .u32 y6.1) ∧ U.drew.cell? ⟨sb, 6, none⟩ = some (.int .u32 y7.1) ∧ U.drew.cell? ⟨sb, 7, none⟩ = some (.int .u32 y8.1) ∧ U.drew.cell? ⟨sb, 8, none⟩ = some (.int .u64 y9.1) ∧ U.drew.cell? ⟨sb, 9, none⟩ = some (.string s0) ∧ U.drew.cell? ⟨sb, 10, none⟩ = some (.string s1) ∧ U.drew.cell? ⟨sb, 11, none⟩ = some (.string s2) ∧ U.drew.cell? ⟨sb, 12, none⟩ = some (.string s3)) := fun U h => h
          have hAt := at_any rb n2.2 w6.drew HT7.out.2.1
          have hS0 : w6.drew.cell? ⟨sb, 0, none⟩ = some (.int .u16 y1.1) ∧ w6.drew.cell? ⟨sb, 1, none⟩ = some (.int .u32 y2.1) ∧ w6.drew.cell? ⟨sb, 2, none⟩ = some (.int .u8 y3.1) ∧ w6.drew.cell? ⟨sb, 3, none⟩ = some (.int .u32 y4.1) ∧ w6.drew.cell? ⟨sb, 4, none⟩ = some (.int .u64 y5.1) ∧ w6.drew.cell? ⟨sb, 5, none⟩ = some (.int .u32 y6.1) ∧ w6.drew.cell? ⟨sb, 6, none⟩ = some (.int .u32 y7.1) ∧ w6.drew.cell? ⟨sb, 7, none⟩ = some (.int .u32 y8.1) ∧ w6.drew.cell? ⟨sb, 8, none⟩ = some (.int .u64 y9.1) ∧ w6.drew.cell? ⟨sb, 9, none⟩ = some (.string s0) ∧ w6.drew.cell? ⟨sb, 10, none⟩ = some (.string s1) ∧ w6.drew.cell? ⟨sb, 11, none⟩ = some (.string s2) ∧ w6.drew.cell? ⟨sb, 12, none⟩ = some (.string s3) := ⟨(cell_of (w := w6.drew) HC6.out 0).trans rfl, (cell_of (w := w6.drew) HC6.out 1).trans rfl, (cell_of (w := w6.drew) HC6.out 2).trans rfl, (cell_of (w := w6.drew) HC6.out 3).trans rfl, (cell_of (w := w6.drew) HC6.out 4).trans rfl, (cell_of (w := w6.drew) HC6.out 5).trans rfl, (cell_of (w := w6.drew) HC6.out 6).trans rfl, (cell_of (w := w6.drew) HC6.out 7).trans rfl, (cell_of (w := w6.drew) HC6.out 8).trans rfl, (cell_of (w := w6.drew) HC6.out 9).trans rfl, (cell_of (w := w6.drew) HC6.out 10).trans rfl, (cell_of (w := w6.drew) HC6.out 11).trans rfl, (cell_of (w := w6.drew) HC6.out 12).trans rfl⟩
          go_wp2
          go_region_held_law (fun w' => w'.cell? ⟨sb, 0, none⟩ = some (.int .u16 y1.1) ∧ w'.cell? ⟨sb, 1, none⟩ = some (.int .u32 y2.1) ∧ w'.cell? ⟨sb, 2, none⟩ = some (.int .u8 y3.1) ∧ w'.cell? ⟨sb, 3, none⟩ = some (.int .u32 y4.1) ∧ w'.cell? ⟨sb, 4, none⟩ = some (.int .u64 y5.1) ∧ w'.cell? ⟨sb, 5, none⟩ = some (.int .u32 y6.1) ∧ w'.cell? ⟨sb, 6, none⟩ = some (.int .u32 y7.1) ∧ w'.cell? ⟨sb, 7, none⟩ = some (.int .u32 y8.1) ∧ w'.cell? ⟨sb, 8, none⟩ = some (.int .u64 y9.1) ∧ w'.cell? ⟨sb, 9, none⟩ = some (.string s0) ∧ w'.cell? ⟨sb, 10, none⟩ = some (.string s1) ∧ w'.cell? ⟨sb, 11, none⟩ = some (.string s2) ∧ w'.cell? ⟨sb, 12, none⟩ = some (.string s3)) (first | with_reducible exact hS0 | ((with_reducible refine hSd _ ?_); (iterate 13 (with_reducible refine hSk _ _ _ ?_)); exact hS0)) (first | (go_at_call 148; refine hAt.mono ?_; rintro e w7 ⟨rfl, rfl⟩))
          go_wp2
          obtain ⟨W6, hW6⟩ : ∃ W6, ((((((((((((((w6).setCell ⟨w.heap.size, 0, none⟩ (.int .u16 y1.1)).setCell ⟨w.heap.size, 1, none⟩ (.int .u32 y2.1)).setCell ⟨w.heap.size, 2, none⟩ (.int .u8 y3.1)).setCell ⟨w.heap.size, 3, none⟩ (.int .u32 y4.1)).setCell ⟨w.heap.size, 4, none⟩ (.int .u64 y5.1)).setCell ⟨w.heap.size, 5, none⟩ (.int .u32 y6.1)).setCell ⟨w.heap.size, 6, none⟩ (.int .u32 y7.1)).setCell ⟨w.heap.size, 7, none⟩ (.int .u32 y8.1)).setCell ⟨w.heap.size, 8, none⟩ (.int .u64 y9.1)).setCell ⟨w.heap.size, 9, none⟩ (.string s0)).setCell ⟨w.heap.size, 10, none⟩ (.string s1)).setCell ⟨w.heap.size, 11, none⟩ (.string s2)).setCell ⟨w.heap.size, 12, none⟩ (.string s3)) = W6 := ⟨_, rfl⟩
          have h6 : W6.heap[w.heap.size]? = some (.cells #[.int .u16 y1.1, .int .u32 y2.1, .int .u8 y3.1, .int .u32 y4.1, .int .u64 y5.1, .int .u32 y6.1, .int .u32 y7.1, .int .u32 y8.1, .int .u64 y9.1, .string s0, .string s1, .string s2, .string s3] 31 (0, 0)) := by
            subst hW6
            exact set13 (HT6.out.1) (.int .u16 y1.1) (.int .u32 y2.1) (.int .u8 y3.1) (.int .u32 y4.1) (.int .u64 y5.1) (.int .u32 y6.1) (.int .u32 y7.1) (.int .u32 y8.1) (.int .u64 y9.1) (.string s0) (.string s1) (.string s2) (.string s3)
          have hm6 : Mod (· = w.heap.size) (w6) W6 := by
            subst hW6
            exact mod13 (w6) w.heap.size (.int .u16 y1.1) (.int .u32 y2.1) (.int .u8 y3.1) (.int .u32 y4.1) (.int .u64 y5.1) (.int .u32 y6.1) (.int .u32 y7.1) (.int .u32 y8.1) (.int .u64 y9.1) (.string s0) (.string s1) (.string s2) (.string s3)
          rw [hW6]
          have z0 : W6.cell? ⟨w.heap.size, 0, none⟩ = some (.int .u16 y1.1) := (cell_of h6 0).trans rfl
          have z1 : W6.cell? ⟨w.heap.size, 1, none⟩ = some (.int .u32 y2.1) := (cell_of h6 1).trans rfl
          have z2 : W6.cell? ⟨w.heap.size, 2, none⟩ = some (.int .u8 y3.1) := (cell_of h6 2).trans rfl
          have z3 : W6.cell? ⟨w.heap.size, 3, none⟩ = some (.int .u32 y4.1) := (cell_of h6 3).trans rfl
          have z4 : W6.cell? ⟨w.heap.size, 4, none⟩ = some (.int .u64 y5.1) := (cell_of h6 4).trans rfl
          have z5 : W6.cell? ⟨w.heap.size, 5, none⟩ = some (.int .u32 y6.1) := (cell_of h6 5).trans rfl
          have z6 : W6.cell? ⟨w.heap.size, 6, none⟩ = some (.int .u32 y7.1) := (cell_of h6 6).trans rfl
          have z7 : W6.cell? ⟨w.heap.size, 7, none⟩ = some (.int .u32 y8.1) := (cell_of h6 7).trans rfl
          have z8 : W6.cell? ⟨w.heap.size, 8, none⟩ = some (.int .u64 y9.1) := (cell_of h6 8).trans rfl
          have z9 : W6.cell? ⟨w.heap.size, 9, none⟩ = some (.string s0) := (cell_of h6 9).trans rfl
          have z10 : W6.cell? ⟨w.heap.size, 10, none⟩ = some (.string s1) := (cell_of h6 10).trans rfl
          have z11 : W6.cell? ⟨w.heap.size, 11, none⟩ = some (.string s2) := (cell_of h6 11).trans rfl
          have z12 : W6.cell? ⟨w.heap.size, 12, none⟩ = some (.string s3) := (cell_of h6 12).trans rfl
          clear hW6
          refine bodyPost_ret (v := .tuple #[.agg #[.int .u16 y1.1, .int .u32 y2.1, .int .u8 y3.1, .int .u32 y4.1, .int .u64 y5.1, .int .u32 y6.1, .int .u32 y7.1, .int .u32 y8.1, .int .u64 y9.1, .string s0, .string s1, .string s2, .string s3], .int .i64 n2.2.at_, .int .i64 0]) ?_ rfl ⟨by rw [hv.out]; rfl, HT6.out.2.2.trans' (hm6.drew) (fun j hj e => by omega)⟩
          simp [results, Tryz.f141, go_sem, z0, z1, z2, z3, z4, z5, z6, z7, z8, z9, z10, z11, z12]
end Go.Proofs.YtklpopmjpgdjnaaGreatDoor
