/- The document's Next. -/
import Derived.Test.YtklpopmjpgdjnaaGreatDoorQGf
import Derived.Test.YtklpopmjpgdjnaaGreatDoorQStatRRead
import Derived.Test.YtklpopmjpgdjnaaGreatDoorQStatNext
import Derived.Deep.CutRange
set_option linter.unusedVariables false
set_option linter.unusedSimpArgs false
namespace Go.Proofs.YtklpopmjpgdjnaaGreatDoor
open Go.RowKit

theorem xn_sub (s : ByteArray) (a b i k : Nat) (hb : a + i + k ≤ b) : xn (s.extract a b) i (i + k) = xn s (a + i) (a + i + k) := by
  obtain ⟨d, rfl⟩ : ∃ d, b = a + d := ⟨b - a, by omega⟩
  unfold xn
  rw [extract_take, extract_take, extract_take, List.drop_take, List.drop_drop, List.take_take, show min k (d - i) = k from by omega]
theorem xn_lt (s : ByteArray) (i k : Nat) (h : i + k ≤ s.size) : xn s i (i + k) < 2 ^ (8 * k) := by
  have := leNat_lt (s.extract i (i + k)).data.toList
  rw [bsize, show (s.extract i (i + k)).size = k from by rw [ByteArray.size_extract]; omega] at this
  exact this
/-- while the document's Next reads: the result's cells, the stat's, the texts' -/
def RNextT (w : World) (xb lb : Nat) (ns ts : Array Value) (U : World) : Prop := U.heap[w.heap.size]? = some (.cells #[.int .u16 0, .int .u32 0, .int .u8 0, .int .u32 0, .int .u64 0, .int .u32 0, .int .u32 0, .int .u32 0, .int .u64 0, .string { data := #[] }, .string { data := #[] }, .string { data := #[] }, .string { data := #[] }] 31 (0, 0)) ∧
  U.heap[xb]? = some (.cells ns 31 (0, 0)) ∧ U.heap[lb]? = some (.cells ts 167 (0, 0)) ∧ Mod (fun _ => False) w U
theorem RNextT.setL {w U : World} {xb lb : Nat} {ns ts : Array Value} (h : RNextT w xb lb ns ts U) (h1 : w.heap.size < xb) (h2 : xb < lb) (k : Nat) (v : Value) : RNextT w xb lb ns (ts.setIfInBounds k v) (U.setCell ⟨lb, k, none⟩ v) :=
  ⟨(Below.heap_setCell _ _ _ _ (by show w.heap.size ≠ lb; omega)).trans h.1, (Below.heap_setCell _ _ _ _ (by show xb ≠ lb; omega)).trans h.2.1, heap_set h.2.2.1 k v, h.2.2.2.setCell (p := ⟨lb, k, none⟩) (Or.inr (by show w.heap.size ≤ lb; omega)) v⟩
theorem RNextT.setX {w U : World} {xb lb : Nat} {ns ts : Array Value} (h : RNextT w xb lb ns ts U) (h1 : w.heap.size < xb) (h2 : xb < lb) (k : Nat) (v : Value) : RNextT w xb lb (ns.setIfInBounds k v) ts (U.setCell ⟨xb, k, none⟩ v) :=
  ⟨(Below.heap_setCell _ _ _ _ (by show w.heap.size ≠ xb; omega)).trans h.1, heap_set h.2.1 k v, (Below.heap_setCell _ _ _ _ (by show lb ≠ xb; omega)).trans h.2.2.1, h.2.2.2.setCell (p := ⟨xb, k, none⟩) (Or.inr (by show w.heap.size ≤ xb; omega)) v⟩
def tsC (q : Rd) (k : Nat) : Array Value :=
  #[.string (if 0 < k then (q.tq 0).text.1 else { data := #[] }), .string (if 1 < k then (q.tq 1).text.1 else { data := #[] }), .string (if 2 < k then (q.tq 2).text.1 else { data := #[] }), .string (if 3 < k then (q.tq 3).text.1 else { data := #[] })]
theorem tsC_set (q : Rd) (k : Nat) (hk : k < 4) : (tsC q k).setIfInBounds k (.string (q.tq k).text.1) = tsC q (k + 1) := by
  rcases (show k = 0 ∨ k = 1 ∨ k = 2 ∨ k = 3 from by omega) with rfl | rfl | rfl | rfl <;> rfl

theorem read_x (s : ByteArray) (i j : Nat) (U : World) (h : j ≤ i + 8) : Calls Tryz.prog 32 #[.string (s.extract i j)] U fun e w' => e = .returned (.int .u64 (xn s i j)) ∧ U = w' :=
  read_any (s.extract i j) U (by rw [ByteArray.size_extract]; omega)
theorem readQid_x (s : ByteArray) (U : World) (h : 19 ≤ s.size) : Calls Tryz.prog 76 #[.string (s.extract 6 19)] U fun e w' => e = .returned (.agg #[.int .u8 (xn s 6 7), .int .u32 (xn s 7 11), .int .u64 (xn s 11 19)]) ∧ Mod (fun _ => False) U w' := by
  have := readQid_any (s.extract 6 19) U (by rw [ByteArray.size_extract]; omega)
  have e1 := xn_sub s 6 19 0 1 (by omega)
  have e2 := xn_sub s 6 19 1 4 (by omega)
  have e3 := xn_sub s 6 19 5 8 (by omega)
  simp only [Nat.reduceAdd] at e1 e2 e3
  unfold xn at e1 e2 e3
  rw [e1, e2, e3] at this
  exact this

theorem stres {V : World} {b : Nat} {T : TypeId} (h : V.heap[b]? = some (.cells #[.int .u16 0, .int .u32 0, .int .u8 0, .int .u32 0, .int .u64 0, .int .u32 0, .int .u32 0, .int .u32 0, .int .u64 0, .string { data := #[] }, .string { data := #[] }, .string { data := #[] }, .string { data := #[] }] T (0, 0))) : V.cell? ⟨b, 0, none⟩ = some (.int .u16 0) ∧ V.frozen? ⟨b, 0, none⟩ = false ∧ V.cell? ⟨b, 1, none⟩ = some (.int .u32 0) ∧ V.frozen? ⟨b, 1, none⟩ = false ∧ V.cell? ⟨b, 2, none⟩ = some (.int .u8 0) ∧ V.frozen? ⟨b, 2, none⟩ = false ∧ V.cell? ⟨b, 3, none⟩ = some (.int .u32 0) ∧ V.frozen? ⟨b, 3, none⟩ = false ∧ V.cell? ⟨b, 4, none⟩ = some (.int .u64 0) ∧ V.frozen? ⟨b, 4, none⟩ = false ∧ V.cell? ⟨b, 5, none⟩ = some (.int .u32 0) ∧ V.frozen? ⟨b, 5, none⟩ = false ∧ V.cell? ⟨b, 6, none⟩ = some (.int .u32 0) ∧ V.frozen? ⟨b, 6, none⟩ = false ∧ V.cell? ⟨b, 7, none⟩ = some (.int .u32 0) ∧ V.frozen? ⟨b, 7, none⟩ = false ∧ V.cell? ⟨b, 8, none⟩ = some (.int .u64 0) ∧ V.frozen? ⟨b, 8, none⟩ = false ∧ V.cell? ⟨b, 9, none⟩ = some (.string { data := #[] }) ∧ V.frozen? ⟨b, 9, none⟩ = false ∧ V.cell? ⟨b, 10, none⟩ = some (.string { data := #[] }) ∧ V.frozen? ⟨b, 10, none⟩ = false ∧ V.cell? ⟨b, 11, none⟩ = some (.string { data := #[] }) ∧ V.frozen? ⟨b, 11, none⟩ = false ∧ V.cell? ⟨b, 12, none⟩ = some (.string { data := #[] }) ∧ V.frozen? ⟨b, 12, none⟩ = false := ⟨(cell_of h 0).trans rfl, free_of h 0, (cell_of h 1).trans rfl, free_of h 1, (cell_of h 2).trans rfl, free_of h 2, (cell_of h 3).trans rfl, free_of h 3, (cell_of h 4).trans rfl, free_of h 4, (cell_of h 5).trans rfl, free_of h 5, (cell_of h 6).trans rfl, free_of h 6, (cell_of h 7).trans rfl, free_of h 7, (cell_of h 8).trans rfl, free_of h 8, (cell_of h 9).trans rfl, free_of h 9, (cell_of h 10).trans rfl, free_of h 10, (cell_of h 11).trans rfl, free_of h 11, (cell_of h 12).trans rfl, free_of h 12⟩
set_option maxRecDepth 100000 in
set_option maxHeartbeats 4000000 in
theorem rnext_any (b : ByteArray) (w : World) (hb : b.size ≤ 140737488355328) :
    Calls Tryz.prog 104 #[.string b] w fun e w' => e = .returned (.tuple #[(nextS b).1.v, .int .i64 (nextS b).2.1, .int .i64 (nextS b).2.2]) ∧ Mod (fun _ => False) w w' := by
  obtain ⟨W, hW⟩ : ∃ W, w.alloc (.cells #[.int .u16 0, .int .u32 0, .int .u8 0, .int .u32 0, .int .u64 0, .int .u32 0, .int .u32 0, .int .u32 0, .int .u64 0, .string { data := #[] }, .string { data := #[] }, .string { data := #[] }, .string { data := #[] }] 31) = W := ⟨_, rfl⟩
  have hz : W.heap[w.heap.size]? = some (.cells #[.int .u16 0, .int .u32 0, .int .u8 0, .int .u32 0, .int .u64 0, .int .u32 0, .int .u32 0, .int .u32 0, .int .u64 0, .string { data := #[] }, .string { data := #[] }, .string { data := #[] }, .string { data := #[] }] 31 (0, 0)) := by subst hW; exact new_at _ _
  have hm : Mod (fun _ => False) w W := by subst hW; exact (Mod.refl _ w).alloc _
  have hsz : W.heap.size = w.heap.size + 1 := by subst hW; simp
  have r0 : (W).cell? ⟨w.heap.size, 0, none⟩ = some (.int .u16 0) := (cell_of (hz) 0).trans rfl
  have rf0 : (W).frozen? ⟨w.heap.size, 0, none⟩ = false := free_of (hz) 0
  have r1 : (W).cell? ⟨w.heap.size, 1, none⟩ = some (.int .u32 0) := (cell_of (hz) 1).trans rfl
  have rf1 : (W).frozen? ⟨w.heap.size, 1, none⟩ = false := free_of (hz) 1
  have r2 : (W).cell? ⟨w.heap.size, 2, none⟩ = some (.int .u8 0) := (cell_of (hz) 2).trans rfl
  have rf2 : (W).frozen? ⟨w.heap.size, 2, none⟩ = false := free_of (hz) 2
  have r3 : (W).cell? ⟨w.heap.size, 3, none⟩ = some (.int .u32 0) := (cell_of (hz) 3).trans rfl
  have rf3 : (W).frozen? ⟨w.heap.size, 3, none⟩ = false := free_of (hz) 3
  have r4 : (W).cell? ⟨w.heap.size, 4, none⟩ = some (.int .u64 0) := (cell_of (hz) 4).trans rfl
  have rf4 : (W).frozen? ⟨w.heap.size, 4, none⟩ = false := free_of (hz) 4
  have r5 : (W).cell? ⟨w.heap.size, 5, none⟩ = some (.int .u32 0) := (cell_of (hz) 5).trans rfl
  have rf5 : (W).frozen? ⟨w.heap.size, 5, none⟩ = false := free_of (hz) 5
  have r6 : (W).cell? ⟨w.heap.size, 6, none⟩ = some (.int .u32 0) := (cell_of (hz) 6).trans rfl
  have rf6 : (W).frozen? ⟨w.heap.size, 6, none⟩ = false := free_of (hz) 6
  have r7 : (W).cell? ⟨w.heap.size, 7, none⟩ = some (.int .u32 0) := (cell_of (hz) 7).trans rfl
  have rf7 : (W).frozen? ⟨w.heap.size, 7, none⟩ = false := free_of (hz) 7
  have r8 : (W).cell? ⟨w.heap.size, 8, none⟩ = some (.int .u64 0) := (cell_of (hz) 8).trans rfl
  have rf8 : (W).frozen? ⟨w.heap.size, 8, none⟩ = false := free_of (hz) 8
  have r9 : (W).cell? ⟨w.heap.size, 9, none⟩ = some (.string { data := #[] }) := (cell_of (hz) 9).trans rfl
  have rf9 : (W).frozen? ⟨w.heap.size, 9, none⟩ = false := free_of (hz) 9
  have r10 : (W).cell? ⟨w.heap.size, 10, none⟩ = some (.string { data := #[] }) := (cell_of (hz) 10).trans rfl
  have rf10 : (W).frozen? ⟨w.heap.size, 10, none⟩ = false := free_of (hz) 10
  have r11 : (W).cell? ⟨w.heap.size, 11, none⟩ = some (.string { data := #[] }) := (cell_of (hz) 11).trans rfl
  have rf11 : (W).frozen? ⟨w.heap.size, 11, none⟩ = false := free_of (hz) 11
  have r12 : (W).cell? ⟨w.heap.size, 12, none⟩ = some (.string { data := #[] }) := (cell_of (hz) 12).trans rfl
  have rf12 : (W).frozen? ⟨w.heap.size, 12, none⟩ = false := free_of (hz) 12
  by_cases h2 : b.size < 2
  · have hv := Lib.hid (nextS_short1 h2)
    have t1 : decide ((b.size : Int) < 2) = true := by simp; omega
    go_enter Tryz.func104, Tryz.ntmps104
    go_wp2
    obtain ⟨W6, hW6⟩ : ∃ W6, ((((((((((((((W).setCell ⟨w.heap.size, 0, none⟩ (.int .u16 0)).setCell ⟨w.heap.size, 1, none⟩ (.int .u32 0)).setCell ⟨w.heap.size, 2, none⟩ (.int .u8 0)).setCell ⟨w.heap.size, 3, none⟩ (.int .u32 0)).setCell ⟨w.heap.size, 4, none⟩ (.int .u64 0)).setCell ⟨w.heap.size, 5, none⟩ (.int .u32 0)).setCell ⟨w.heap.size, 6, none⟩ (.int .u32 0)).setCell ⟨w.heap.size, 7, none⟩ (.int .u32 0)).setCell ⟨w.heap.size, 8, none⟩ (.int .u64 0)).setCell ⟨w.heap.size, 9, none⟩ (.string { data := #[] })).setCell ⟨w.heap.size, 10, none⟩ (.string { data := #[] })).setCell ⟨w.heap.size, 11, none⟩ (.string { data := #[] })).setCell ⟨w.heap.size, 12, none⟩ (.string { data := #[] })) = W6 := ⟨_, rfl⟩
    have h6 : W6.heap[w.heap.size]? = some (.cells #[.int .u16 0, .int .u32 0, .int .u8 0, .int .u32 0, .int .u64 0, .int .u32 0, .int .u32 0, .int .u32 0, .int .u64 0, .string { data := #[] }, .string { data := #[] }, .string { data := #[] }, .string { data := #[] }] 31 (0, 0)) := by
      subst hW6
      exact set13 (hz) (.int .u16 0) (.int .u32 0) (.int .u8 0) (.int .u32 0) (.int .u64 0) (.int .u32 0) (.int .u32 0) (.int .u32 0) (.int .u64 0) (.string { data := #[] }) (.string { data := #[] }) (.string { data := #[] }) (.string { data := #[] })
    have hm6 : Mod (· = w.heap.size) (W) W6 := by
      subst hW6
      exact mod13 (W) w.heap.size (.int .u16 0) (.int .u32 0) (.int .u8 0) (.int .u32 0) (.int .u64 0) (.int .u32 0) (.int .u32 0) (.int .u32 0) (.int .u64 0) (.string { data := #[] }) (.string { data := #[] }) (.string { data := #[] }) (.string { data := #[] })
    rw [hW6]
    have z0 : W6.cell? ⟨w.heap.size, 0, none⟩ = some (.int .u16 0) := (cell_of h6 0).trans rfl
    have z1 : W6.cell? ⟨w.heap.size, 1, none⟩ = some (.int .u32 0) := (cell_of h6 1).trans rfl
    have z2 : W6.cell? ⟨w.heap.size, 2, none⟩ = some (.int .u8 0) := (cell_of h6 2).trans rfl
    have z3 : W6.cell? ⟨w.heap.size, 3, none⟩ = some (.int .u32 0) := (cell_of h6 3).trans rfl
    have z4 : W6.cell? ⟨w.heap.size, 4, none⟩ = some (.int .u64 0) := (cell_of h6 4).trans rfl
    have z5 : W6.cell? ⟨w.heap.size, 5, none⟩ = some (.int .u32 0) := (cell_of h6 5).trans rfl
    have z6 : W6.cell? ⟨w.heap.size, 6, none⟩ = some (.int .u32 0) := (cell_of h6 6).trans rfl
    have z7 : W6.cell? ⟨w.heap.size, 7, none⟩ = some (.int .u32 0) := (cell_of h6 7).trans rfl
    have z8 : W6.cell? ⟨w.heap.size, 8, none⟩ = some (.int .u64 0) := (cell_of h6 8).trans rfl
    have z9 : W6.cell? ⟨w.heap.size, 9, none⟩ = some (.string { data := #[] }) := (cell_of h6 9).trans rfl
    have z10 : W6.cell? ⟨w.heap.size, 10, none⟩ = some (.string { data := #[] }) := (cell_of h6 10).trans rfl
    have z11 : W6.cell? ⟨w.heap.size, 11, none⟩ = some (.string { data := #[] }) := (cell_of h6 11).trans rfl
    have z12 : W6.cell? ⟨w.heap.size, 12, none⟩ = some (.string { data := #[] }) := (cell_of h6 12).trans rfl
    clear hW6
    refine bodyPost_ret (v := .tuple #[.agg #[.int .u16 0, .int .u32 0, .int .u8 0, .int .u32 0, .int .u64 0, .int .u32 0, .int .u32 0, .int .u32 0, .int .u64 0, .string { data := #[] }, .string { data := #[] }, .string { data := #[] }, .string { data := #[] }], .int .i64 0, .int .i64 50]) ?_ rfl ⟨by rw [hv.out]; rfl, (hm).trans' hm6 (fun j hj e => by omega)⟩
    simp [results, Tryz.f104, go_sem, z0, z1, z2, z3, z4, z5, z6, z7, z8, z9, z10, z11, z12]
  have t1 : decide ((b.size : Int) < 2) = false := by simp; omega
  have h2' : 2 ≤ b.size := by omega
  have hn := body_len h2'
  have hbl : bodyLen b = leNat (b.extract 0 2).data.toList := rfl
  have hs2 := @nextS_short2 b h2'
  have hs3 := @nextS_body b h2'
  have hrz : (b.extract 0 2).size ≤ 8 := by rw [ByteArray.size_extract]; omega
  have hR0 := fun U => read_any (b.extract 0 2) U hrz
  rw [← hbl] at hR0
  have hsb : ∀ h : 2 + bodyLen b ≤ b.size, (b.extract 2 (2 + bodyLen b)).size = bodyLen b := fun h => by rw [ByteArray.size_extract]; omega
  generalize bodyLen b = n at *
  have hc1 : IntKind.i64.wrap (n : Int) = n := by rw [IntKind.wrap_i64]; omega
  have hc2 : IntKind.i64.wrap (2 + (n : Int)) = ((2 + n : Nat) : Int) := by rw [IntKind.wrap_i64]; omega
  clear hbl hrz
  by_cases hl : b.size < 2 + n
  · have hv := Lib.hid (hs2 hl)
    have t2 : decide ((b.size : Int) < ((2 + n : Nat) : Int)) = true := by simp; omega
    clear hs2 hs3 hsb
    go_enter Tryz.func104, Tryz.ntmps104
    go_wp2_with fail
    refine (hR0 _).mono ?_
    rintro e w1 ⟨rfl, rfl⟩
    go_wp2
    obtain ⟨W6, hW6⟩ : ∃ W6, ((((((((((((((W).setCell ⟨w.heap.size, 0, none⟩ (.int .u16 0)).setCell ⟨w.heap.size, 1, none⟩ (.int .u32 0)).setCell ⟨w.heap.size, 2, none⟩ (.int .u8 0)).setCell ⟨w.heap.size, 3, none⟩ (.int .u32 0)).setCell ⟨w.heap.size, 4, none⟩ (.int .u64 0)).setCell ⟨w.heap.size, 5, none⟩ (.int .u32 0)).setCell ⟨w.heap.size, 6, none⟩ (.int .u32 0)).setCell ⟨w.heap.size, 7, none⟩ (.int .u32 0)).setCell ⟨w.heap.size, 8, none⟩ (.int .u64 0)).setCell ⟨w.heap.size, 9, none⟩ (.string { data := #[] })).setCell ⟨w.heap.size, 10, none⟩ (.string { data := #[] })).setCell ⟨w.heap.size, 11, none⟩ (.string { data := #[] })).setCell ⟨w.heap.size, 12, none⟩ (.string { data := #[] })) = W6 := ⟨_, rfl⟩
    have h6 : W6.heap[w.heap.size]? = some (.cells #[.int .u16 0, .int .u32 0, .int .u8 0, .int .u32 0, .int .u64 0, .int .u32 0, .int .u32 0, .int .u32 0, .int .u64 0, .string { data := #[] }, .string { data := #[] }, .string { data := #[] }, .string { data := #[] }] 31 (0, 0)) := by
      subst hW6
      exact set13 (hz) (.int .u16 0) (.int .u32 0) (.int .u8 0) (.int .u32 0) (.int .u64 0) (.int .u32 0) (.int .u32 0) (.int .u32 0) (.int .u64 0) (.string { data := #[] }) (.string { data := #[] }) (.string { data := #[] }) (.string { data := #[] })
    have hm6 : Mod (· = w.heap.size) (W) W6 := by
      subst hW6
      exact mod13 (W) w.heap.size (.int .u16 0) (.int .u32 0) (.int .u8 0) (.int .u32 0) (.int .u64 0) (.int .u32 0) (.int .u32 0) (.int .u32 0) (.int .u64 0) (.string { data := #[] }) (.string { data := #[] }) (.string { data := #[] }) (.string { data := #[] })
    rw [hW6]
    have z0 : W6.cell? ⟨w.heap.size, 0, none⟩ = some (.int .u16 0) := (cell_of h6 0).trans rfl
    have z1 : W6.cell? ⟨w.heap.size, 1, none⟩ = some (.int .u32 0) := (cell_of h6 1).trans rfl
    have z2 : W6.cell? ⟨w.heap.size, 2, none⟩ = some (.int .u8 0) := (cell_of h6 2).trans rfl
    have z3 : W6.cell? ⟨w.heap.size, 3, none⟩ = some (.int .u32 0) := (cell_of h6 3).trans rfl
    have z4 : W6.cell? ⟨w.heap.size, 4, none⟩ = some (.int .u64 0) := (cell_of h6 4).trans rfl
    have z5 : W6.cell? ⟨w.heap.size, 5, none⟩ = some (.int .u32 0) := (cell_of h6 5).trans rfl
    have z6 : W6.cell? ⟨w.heap.size, 6, none⟩ = some (.int .u32 0) := (cell_of h6 6).trans rfl
    have z7 : W6.cell? ⟨w.heap.size, 7, none⟩ = some (.int .u32 0) := (cell_of h6 7).trans rfl
    have z8 : W6.cell? ⟨w.heap.size, 8, none⟩ = some (.int .u64 0) := (cell_of h6 8).trans rfl
    have z9 : W6.cell? ⟨w.heap.size, 9, none⟩ = some (.string { data := #[] }) := (cell_of h6 9).trans rfl
    have z10 : W6.cell? ⟨w.heap.size, 10, none⟩ = some (.string { data := #[] }) := (cell_of h6 10).trans rfl
    have z11 : W6.cell? ⟨w.heap.size, 11, none⟩ = some (.string { data := #[] }) := (cell_of h6 11).trans rfl
    have z12 : W6.cell? ⟨w.heap.size, 12, none⟩ = some (.string { data := #[] }) := (cell_of h6 12).trans rfl
    clear hW6
    refine bodyPost_ret (v := .tuple #[.agg #[.int .u16 0, .int .u32 0, .int .u8 0, .int .u32 0, .int .u64 0, .int .u32 0, .int .u32 0, .int .u32 0, .int .u64 0, .string { data := #[] }, .string { data := #[] }, .string { data := #[] }, .string { data := #[] }], .int .i64 0, .int .i64 50]) ?_ rfl ⟨by rw [hv.out]; rfl, (hm).trans' hm6 (fun j hj e => by omega)⟩
    simp [results, Tryz.f104, go_sem, z0, z1, z2, z3, z4, z5, z6, z7, z8, z9, z10, z11, z12]
  have t2 : decide ((b.size : Int) < ((2 + n : Nat) : Int)) = false := by simp; omega
  have hs := hsb (by omega)
  have hN := hs3 (by omega)
  clear hs2 hs3 hsb
  have i1 : ((2 + n : Nat) : Int) ≤ (b.size : Int) := by omega
  have i2 : (2 : Int) ≤ ((2 + n : Nat) : Int) := by omega
  obtain ⟨s, hse⟩ : ∃ s, b.extract 2 (2 + n) = s := ⟨_, rfl⟩
  rw [hse] at hs hN
  by_cases h47 : n < 47
  · have he := end_short s (by omega)
    have hv := Lib.hid (hN.trans (if_pos he))
    have t3 : decide ((n : Int) < 47) = true := by simp; omega
    clear hN he
    go_enter Tryz.func104, Tryz.ntmps104
    go_wp2_with fail
    refine (hR0 _).mono ?_
    rintro e w1 ⟨rfl, rfl⟩
    go_wp2
    obtain ⟨W6, hW6⟩ : ∃ W6, ((((((((((((((W).setCell ⟨w.heap.size, 0, none⟩ (.int .u16 0)).setCell ⟨w.heap.size, 1, none⟩ (.int .u32 0)).setCell ⟨w.heap.size, 2, none⟩ (.int .u8 0)).setCell ⟨w.heap.size, 3, none⟩ (.int .u32 0)).setCell ⟨w.heap.size, 4, none⟩ (.int .u64 0)).setCell ⟨w.heap.size, 5, none⟩ (.int .u32 0)).setCell ⟨w.heap.size, 6, none⟩ (.int .u32 0)).setCell ⟨w.heap.size, 7, none⟩ (.int .u32 0)).setCell ⟨w.heap.size, 8, none⟩ (.int .u64 0)).setCell ⟨w.heap.size, 9, none⟩ (.string { data := #[] })).setCell ⟨w.heap.size, 10, none⟩ (.string { data := #[] })).setCell ⟨w.heap.size, 11, none⟩ (.string { data := #[] })).setCell ⟨w.heap.size, 12, none⟩ (.string { data := #[] })) = W6 := ⟨_, rfl⟩
    have h6 : W6.heap[w.heap.size]? = some (.cells #[.int .u16 0, .int .u32 0, .int .u8 0, .int .u32 0, .int .u64 0, .int .u32 0, .int .u32 0, .int .u32 0, .int .u64 0, .string { data := #[] }, .string { data := #[] }, .string { data := #[] }, .string { data := #[] }] 31 (0, 0)) := by
      subst hW6
      exact set13 (hz) (.int .u16 0) (.int .u32 0) (.int .u8 0) (.int .u32 0) (.int .u64 0) (.int .u32 0) (.int .u32 0) (.int .u32 0) (.int .u64 0) (.string { data := #[] }) (.string { data := #[] }) (.string { data := #[] }) (.string { data := #[] })
    have hm6 : Mod (· = w.heap.size) (W) W6 := by
      subst hW6
      exact mod13 (W) w.heap.size (.int .u16 0) (.int .u32 0) (.int .u8 0) (.int .u32 0) (.int .u64 0) (.int .u32 0) (.int .u32 0) (.int .u32 0) (.int .u64 0) (.string { data := #[] }) (.string { data := #[] }) (.string { data := #[] }) (.string { data := #[] })
    rw [hW6]
    have z0 : W6.cell? ⟨w.heap.size, 0, none⟩ = some (.int .u16 0) := (cell_of h6 0).trans rfl
    have z1 : W6.cell? ⟨w.heap.size, 1, none⟩ = some (.int .u32 0) := (cell_of h6 1).trans rfl
    have z2 : W6.cell? ⟨w.heap.size, 2, none⟩ = some (.int .u8 0) := (cell_of h6 2).trans rfl
    have z3 : W6.cell? ⟨w.heap.size, 3, none⟩ = some (.int .u32 0) := (cell_of h6 3).trans rfl
    have z4 : W6.cell? ⟨w.heap.size, 4, none⟩ = some (.int .u64 0) := (cell_of h6 4).trans rfl
    have z5 : W6.cell? ⟨w.heap.size, 5, none⟩ = some (.int .u32 0) := (cell_of h6 5).trans rfl
    have z6 : W6.cell? ⟨w.heap.size, 6, none⟩ = some (.int .u32 0) := (cell_of h6 6).trans rfl
    have z7 : W6.cell? ⟨w.heap.size, 7, none⟩ = some (.int .u32 0) := (cell_of h6 7).trans rfl
    have z8 : W6.cell? ⟨w.heap.size, 8, none⟩ = some (.int .u64 0) := (cell_of h6 8).trans rfl
    have z9 : W6.cell? ⟨w.heap.size, 9, none⟩ = some (.string { data := #[] }) := (cell_of h6 9).trans rfl
    have z10 : W6.cell? ⟨w.heap.size, 10, none⟩ = some (.string { data := #[] }) := (cell_of h6 10).trans rfl
    have z11 : W6.cell? ⟨w.heap.size, 11, none⟩ = some (.string { data := #[] }) := (cell_of h6 11).trans rfl
    have z12 : W6.cell? ⟨w.heap.size, 12, none⟩ = some (.string { data := #[] }) := (cell_of h6 12).trans rfl
    clear hW6
    refine bodyPost_ret (v := .tuple #[.agg #[.int .u16 0, .int .u32 0, .int .u8 0, .int .u32 0, .int .u64 0, .int .u32 0, .int .u32 0, .int .u32 0, .int .u64 0, .string { data := #[] }, .string { data := #[] }, .string { data := #[] }, .string { data := #[] }], .int .i64 0, .int .i64 51]) ?_ rfl ⟨by rw [hv.out]; rfl, (hm).trans' hm6 (fun j hj e => by omega)⟩
    simp [results, Tryz.f104, go_sem, z0, z1, z2, z3, z4, z5, z6, z7, z8, z9, z10, z11, z12]
  have t3 : decide ((n : Int) < 47) = false := by simp; omega
  have h39 : 39 ≤ s.size := by omega
  obtain ⟨hq, hrd⟩ := read_full s h39
  rw [hq, hrd] at hN
  have b0 : xn s 0 2 < 65536 := xn_lt s 0 2 (by omega)
  have b1 : xn s 2 6 < 4294967296 := xn_lt s 2 4 (by omega)
  have b5 : xn s 19 23 < 4294967296 := xn_lt s 19 4 (by omega)
  have b6 : xn s 23 27 < 4294967296 := xn_lt s 23 4 (by omega)
  have b7 : xn s 27 31 < 4294967296 := xn_lt s 27 4 (by omega)
  have v0 : IntKind.u16.wrap (xn s 0 2 : Int) = xn s 0 2 := by rw [IntKind.wrap_u16]; omega
  have v1 : IntKind.u32.wrap (xn s 2 6 : Int) = xn s 2 6 := by rw [IntKind.wrap_u32]; omega
  have v5 : IntKind.u32.wrap (xn s 19 23 : Int) = xn s 19 23 := by rw [IntKind.wrap_u32]; omega
  have v6 : IntKind.u32.wrap (xn s 23 27 : Int) = xn s 23 27 := by rw [IntKind.wrap_u32]; omega
  have v7 : IntKind.u32.wrap (xn s 27 31 : Int) = xn s 27 31 := by rw [IntKind.wrap_u32]; omega
  have j0 : (2 : Int) ≤ (s.size : Int) := by omega
  have j1 : (6 : Int) ≤ (s.size : Int) := by omega
  have j2 : (19 : Int) ≤ (s.size : Int) := by omega
  have j3 : (23 : Int) ≤ (s.size : Int) := by omega
  have j4 : (27 : Int) ≤ (s.size : Int) := by omega
  have j5 : (31 : Int) ≤ (s.size : Int) := by omega
  have j6 : (39 : Int) ≤ (s.size : Int) := by omega
  have k0 : 2 ≤ s.size := by omega
  have k1 : 6 ≤ s.size := by omega
  have k2 : 19 ≤ s.size := by omega
  have k3 : 23 ≤ s.size := by omega
  have k4 : 27 ≤ s.size := by omega
  have k5 : 31 ≤ s.size := by omega
  have k6 : 39 ≤ s.size := by omega
  clear hq hrd b0 b1 b5 b6 b7
  have HS := Lib.hid hs
  have HSE := Lib.hid hse
  have HZ := Lib.hid hz
  have HSZ := Lib.hid hsz
  clear hsz
  have HB := Lib.hid (show n < 65536 ∧ 47 ≤ n from ⟨hn, by omega⟩)
  have HN := Lib.hid hN
  have HM := Lib.hid hm
  clear hN hm
  go_enter Tryz.func104, Tryz.ntmps104
  go_wp2_with fail
  refine (hR0 _).mono ?_
  rintro e w1 ⟨rfl, rfl⟩
  clear hR0
  go_upto_region 9 with (fail)
  rw [hse]
  clear hs r0 r1 r2 r3 r4 r5 r6 r7 r8 r9 r10 r11 r12 rf0 rf1 rf2 rf3 rf4 rf5 rf6 rf7 rf8 rf9 rf10 rf11 rf12 hse hz t1 t2 t3 hc1 hc2 hW hb h2 h2' hn hl h47 i1 i2
  go_cut [7] from 33 to 59 (fun p wc => ∃ q, p = .pointer (some ⟨q, 0, none⟩) ∧ Hid (wc.heap[q]? = some (.cells #[.int .u16 (xn s 0 2), .int .u32 (xn s 2 6), .int .u8 (xn s 6 7), .int .u32 (xn s 7 11), .int .u64 (xn s 11 19), .int .u32 (xn s 19 23), .int .u32 (xn s 23 27), .int .u32 (xn s 27 31), .int .u64 (xn s 31 39), .string { data := #[] }, .string { data := #[] }, .string { data := #[] }, .string { data := #[] }] 31 (0, 0))) ∧ Hid (Mod (fun _ => False) W wc) ∧ W.heap.size ≤ q)
  case first =>
    refine wp_onlyN ?_
    go_region_held_law (fun _ => True) (first | trivial) (first
      | (go_at_call 32; refine (read_x s _ _ _ (by omega)).mono ?_; rintro e w4 ⟨rfl, rfl⟩)
      | (go_at_call 76; refine (readQid_x s _ (by omega)).mono ?_; rintro e w4 ⟨rfl, m4⟩; first | (have qb : w4.heap[W.heap.size]? = some (.cells #[.int .u16 0, .int .u32 0, .int .u8 0, .int .u32 0, .int .u64 0, .int .u32 0, .int .u32 0, .int .u32 0, .int .u64 0, .string { data := #[] }, .string { data := #[] }, .string { data := #[] }, .string { data := #[] }] 31 (0, 0)) := (m4.block W.heap.size (by simp) (fun x => x)).trans (new_at W.drew _); obtain ⟨q0, qf0, q1, qf1, q2, qf2, q3, qf3, q4, qf4, q5, qf5, q6, qf6, q7, qf7, q8, qf8, q9, qf9, q10, qf10, q11, qf11, q12, qf12⟩ := stres qb) | skip))
    all_goals refine onlyN_out ?_
    all_goals first
      | (have hq5 := lt_of qb
         have hm5 : Mod (fun _ => False) W w4 := (((Mod.refl _ W).alloc _).drew).trans m4
         go_wp2_with fail
         go_meet
         case rel => exact ⟨_, rfl, set13 qb _ _ _ _ _ _ _ _ _ _ _ _ _, hm5.trans' (mod13 w4 W.heap.size _ _ _ _ _ _ _ _ _ _ _ _ _) (fun j hj e => by omega), Nat.le_refl _⟩)
      | (have hm5 : Mod (fun _ => False) W w4 := Mod.ofDrew m4
         go_wp2_with fail
         go_meet
         case rel => exact ⟨_, rfl, new_at _ _, hm5.alloc _, hm5.size⟩)
  case rest =>
    obtain ⟨xb, rfl, HX, HMw, hxb⟩ := hcut
    obtain ⟨V, hV⟩ : ∃ V, wc.alloc (.cells #[.string { data := #[] }, .string { data := #[] }, .string { data := #[] }, .string { data := #[] }] 167) = V := ⟨_, rfl⟩
    have hax : w.heap.size < xb := by have := HSZ.out; omega
    have hxl : xb < wc.heap.size := lt_of HX.out
    obtain ⟨lb, hlb⟩ : ∃ lb, wc.heap.size = lb := ⟨_, rfl⟩
    have hVa : V.heap[wc.heap.size]? = some (.cells #[.string { data := #[] }, .string { data := #[] }, .string { data := #[] }, .string { data := #[] }] 167 (0, 0)) := by subst hV; exact new_at _ _
    have hVm : Mod (fun _ => False) wc V := by subst hV; exact (Mod.refl _ _).alloc _
    have hmw : Mod (fun _ => False) W V := HMw.out.trans hVm
    rw [hlb] at hVa hxl
    have HR0 : Hid (RNextT w xb lb #[.int .u16 (xn s 0 2), .int .u32 (xn s 2 6), .int .u8 (xn s 6 7), .int .u32 (xn s 7 11), .int .u64 (xn s 11 19), .int .u32 (xn s 19 23), .int .u32 (xn s 23 27), .int .u32 (xn s 27 31), .int .u64 (xn s 31 39), .string { data := #[] }, .string { data := #[] }, .string { data := #[] }, .string { data := #[] }] (tsC ⟨s, 39, 0⟩ 0) V) := Lib.hid ⟨(hmw.block _ (lt_of HZ.out) (fun x => x)).trans HZ.out, (hVm.block _ (lt_of HX.out) (fun x => x)).trans HX.out, hVa, HM.out.trans hmw⟩
    have hsn : s.size = n := HS.out
    obtain ⟨hn1, hn2⟩ := HB.out
    have hc1 : IntKind.i64.wrap (2 + (n : Int)) = ((2 + n : Nat) : Int) := by rw [IntKind.wrap_i64]; omega
    clear hVa hVm hmw hxb
    have Hsn := Lib.hid hsn
    clear hsn
    go_wp2
    clear hV HX HMw HZ HM
    go_loopw [3, 4, 8, 10, 11] (fun _ _ at_ i _ wr => ∃ k : Nat, k ≤ 4 ∧ i = .int .i64 k ∧ at_ = .int .i64 ((Rd.mk s 39 0).tq k).at_ ∧ ((Rd.mk s 39 0).tq k).f = 0 ∧ Hid (RNextT w xb lb #[.int .u16 (xn s 0 2), .int .u32 (xn s 2 6), .int .u8 (xn s 6 7), .int .u32 (xn s 7 11), .int .u64 (xn s 11 19), .int .u32 (xn s 19 23), .int .u32 (xn s 23 27), .int .u32 (xn s 27 31), .int .u64 (xn s 31 39), .string { data := #[] }, .string { data := #[] }, .string { data := #[] }, .string { data := #[] }] (tsC ⟨s, 39, 0⟩ k) wr)) (fun _ _ _ i _ _ => 4 - (intOf i).toNat)
    case atStart => exact ⟨0, by omega, rfl, rfl, rfl, HR0⟩
    case round =>
      obtain ⟨k, hk4, rfl, rfl, hf, HR⟩ := hrel
      have hXs : ((Rd.mk s 39 0).tq k).s = s := Rd.tq_s _ _
      have hXa := Rd.tq_at (Rd.mk s 39 0) k (by show 39 ≤ s.size; rw [Hsn.out]; omega)
      rw [hXs, Hsn.out] at hXa
      have hra : ∀ i, wr.cell? ⟨w.heap.size, i, none⟩ = (#[.int .u16 0, .int .u32 0, .int .u8 0, .int .u32 0, .int .u64 0, .int .u32 0, .int .u32 0, .int .u32 0, .int .u64 0, .string { data := #[] }, .string { data := #[] }, .string { data := #[] }, .string { data := #[] }] : Array Value)[i]? := cell_of HR.out.1
      by_cases hlt : k < 4
      · have t4 : decide ((k : Int) < 4) = true := by simp; omega
        obtain ⟨at_, hat⟩ : ∃ a, ((Rd.mk s 39 0).tq k).at_ = a := ⟨_, rfl⟩
        have hbad1 := @Rd.text_bad1 ((Rd.mk s 39 0).tq k)
        have hbad2 := @Rd.text_bad ((Rd.mk s 39 0).tq k)
        have hin := @Rd.text_in ((Rd.mk s 39 0).tq k) hf
        have htl : ((Rd.mk s 39 0).tq k).tl = xn s at_ (at_ + 2) := by unfold Rd.tl; rw [hXs, hat]; rfl
        have hset := tsC_set ⟨s, 39, 0⟩ k hlt
        have hstop := fun h => Rd.tq_stop (q := ⟨s, 39, 0⟩) (k := k + 1) (m := 4) (by omega) h
        have hnext : (Rd.mk s 39 0).tq (k + 1) = ((Rd.mk s 39 0).tq k).text.2 := rfl
        rw [hnext] at hstop
        rw [hXs, hat, htl, Hsn.out] at hbad2
        rw [hXs, hat, Hsn.out] at hbad1
        rw [hXs, hat, htl, Hsn.out] at hin
        rw [hat] at hXa ⊢
        have hw1 : IntKind.i64.wrap ((at_ : Int) + 2) = ((at_ + 2 : Nat) : Int) := by rw [IntKind.wrap_i64]; omega
        by_cases c1 : n < at_ + 2
        · have t5 : decide ((n : Int) < ((at_ + 2 : Nat) : Int)) = true := by simp; omega
          have hv := Lib.hid (HN.out.trans (if_pos (hstop (hbad1 c1))))
          clear hbad1 hbad2 hin hset hstop hnext htl
          have r0 : (wr).cell? ⟨w.heap.size, 0, none⟩ = some (.int .u16 0) := (cell_of (HR.out.1) 0).trans rfl
          have rf0 : (wr).frozen? ⟨w.heap.size, 0, none⟩ = false := free_of (HR.out.1) 0
          have r1 : (wr).cell? ⟨w.heap.size, 1, none⟩ = some (.int .u32 0) := (cell_of (HR.out.1) 1).trans rfl
          have rf1 : (wr).frozen? ⟨w.heap.size, 1, none⟩ = false := free_of (HR.out.1) 1
          have r2 : (wr).cell? ⟨w.heap.size, 2, none⟩ = some (.int .u8 0) := (cell_of (HR.out.1) 2).trans rfl
          have rf2 : (wr).frozen? ⟨w.heap.size, 2, none⟩ = false := free_of (HR.out.1) 2
          have r3 : (wr).cell? ⟨w.heap.size, 3, none⟩ = some (.int .u32 0) := (cell_of (HR.out.1) 3).trans rfl
          have rf3 : (wr).frozen? ⟨w.heap.size, 3, none⟩ = false := free_of (HR.out.1) 3
          have r4 : (wr).cell? ⟨w.heap.size, 4, none⟩ = some (.int .u64 0) := (cell_of (HR.out.1) 4).trans rfl
          have rf4 : (wr).frozen? ⟨w.heap.size, 4, none⟩ = false := free_of (HR.out.1) 4
          have r5 : (wr).cell? ⟨w.heap.size, 5, none⟩ = some (.int .u32 0) := (cell_of (HR.out.1) 5).trans rfl
          have rf5 : (wr).frozen? ⟨w.heap.size, 5, none⟩ = false := free_of (HR.out.1) 5
          have r6 : (wr).cell? ⟨w.heap.size, 6, none⟩ = some (.int .u32 0) := (cell_of (HR.out.1) 6).trans rfl
          have rf6 : (wr).frozen? ⟨w.heap.size, 6, none⟩ = false := free_of (HR.out.1) 6
          have r7 : (wr).cell? ⟨w.heap.size, 7, none⟩ = some (.int .u32 0) := (cell_of (HR.out.1) 7).trans rfl
          have rf7 : (wr).frozen? ⟨w.heap.size, 7, none⟩ = false := free_of (HR.out.1) 7
          have r8 : (wr).cell? ⟨w.heap.size, 8, none⟩ = some (.int .u64 0) := (cell_of (HR.out.1) 8).trans rfl
          have rf8 : (wr).frozen? ⟨w.heap.size, 8, none⟩ = false := free_of (HR.out.1) 8
          have r9 : (wr).cell? ⟨w.heap.size, 9, none⟩ = some (.string { data := #[] }) := (cell_of (HR.out.1) 9).trans rfl
          have rf9 : (wr).frozen? ⟨w.heap.size, 9, none⟩ = false := free_of (HR.out.1) 9
          have r10 : (wr).cell? ⟨w.heap.size, 10, none⟩ = some (.string { data := #[] }) := (cell_of (HR.out.1) 10).trans rfl
          have rf10 : (wr).frozen? ⟨w.heap.size, 10, none⟩ = false := free_of (HR.out.1) 10
          have r11 : (wr).cell? ⟨w.heap.size, 11, none⟩ = some (.string { data := #[] }) := (cell_of (HR.out.1) 11).trans rfl
          have rf11 : (wr).frozen? ⟨w.heap.size, 11, none⟩ = false := free_of (HR.out.1) 11
          have r12 : (wr).cell? ⟨w.heap.size, 12, none⟩ = some (.string { data := #[] }) := (cell_of (HR.out.1) 12).trans rfl
          have rf12 : (wr).frozen? ⟨w.heap.size, 12, none⟩ = false := free_of (HR.out.1) 12
          go_wp2
          obtain ⟨W6, hW6⟩ : ∃ W6, ((((((((((((((wr).setCell ⟨w.heap.size, 0, none⟩ (.int .u16 0)).setCell ⟨w.heap.size, 1, none⟩ (.int .u32 0)).setCell ⟨w.heap.size, 2, none⟩ (.int .u8 0)).setCell ⟨w.heap.size, 3, none⟩ (.int .u32 0)).setCell ⟨w.heap.size, 4, none⟩ (.int .u64 0)).setCell ⟨w.heap.size, 5, none⟩ (.int .u32 0)).setCell ⟨w.heap.size, 6, none⟩ (.int .u32 0)).setCell ⟨w.heap.size, 7, none⟩ (.int .u32 0)).setCell ⟨w.heap.size, 8, none⟩ (.int .u64 0)).setCell ⟨w.heap.size, 9, none⟩ (.string { data := #[] })).setCell ⟨w.heap.size, 10, none⟩ (.string { data := #[] })).setCell ⟨w.heap.size, 11, none⟩ (.string { data := #[] })).setCell ⟨w.heap.size, 12, none⟩ (.string { data := #[] })) = W6 := ⟨_, rfl⟩
          have h6 : W6.heap[w.heap.size]? = some (.cells #[.int .u16 0, .int .u32 0, .int .u8 0, .int .u32 0, .int .u64 0, .int .u32 0, .int .u32 0, .int .u32 0, .int .u64 0, .string { data := #[] }, .string { data := #[] }, .string { data := #[] }, .string { data := #[] }] 31 (0, 0)) := by
            subst hW6
            exact set13 (HR.out.1) (.int .u16 0) (.int .u32 0) (.int .u8 0) (.int .u32 0) (.int .u64 0) (.int .u32 0) (.int .u32 0) (.int .u32 0) (.int .u64 0) (.string { data := #[] }) (.string { data := #[] }) (.string { data := #[] }) (.string { data := #[] })
          have hm6 : Mod (· = w.heap.size) (wr) W6 := by
            subst hW6
            exact mod13 (wr) w.heap.size (.int .u16 0) (.int .u32 0) (.int .u8 0) (.int .u32 0) (.int .u64 0) (.int .u32 0) (.int .u32 0) (.int .u32 0) (.int .u64 0) (.string { data := #[] }) (.string { data := #[] }) (.string { data := #[] }) (.string { data := #[] })
          rw [hW6]
          have z0 : W6.cell? ⟨w.heap.size, 0, none⟩ = some (.int .u16 0) := (cell_of h6 0).trans rfl
          have z1 : W6.cell? ⟨w.heap.size, 1, none⟩ = some (.int .u32 0) := (cell_of h6 1).trans rfl
          have z2 : W6.cell? ⟨w.heap.size, 2, none⟩ = some (.int .u8 0) := (cell_of h6 2).trans rfl
          have z3 : W6.cell? ⟨w.heap.size, 3, none⟩ = some (.int .u32 0) := (cell_of h6 3).trans rfl
          have z4 : W6.cell? ⟨w.heap.size, 4, none⟩ = some (.int .u64 0) := (cell_of h6 4).trans rfl
          have z5 : W6.cell? ⟨w.heap.size, 5, none⟩ = some (.int .u32 0) := (cell_of h6 5).trans rfl
          have z6 : W6.cell? ⟨w.heap.size, 6, none⟩ = some (.int .u32 0) := (cell_of h6 6).trans rfl
          have z7 : W6.cell? ⟨w.heap.size, 7, none⟩ = some (.int .u32 0) := (cell_of h6 7).trans rfl
          have z8 : W6.cell? ⟨w.heap.size, 8, none⟩ = some (.int .u64 0) := (cell_of h6 8).trans rfl
          have z9 : W6.cell? ⟨w.heap.size, 9, none⟩ = some (.string { data := #[] }) := (cell_of h6 9).trans rfl
          have z10 : W6.cell? ⟨w.heap.size, 10, none⟩ = some (.string { data := #[] }) := (cell_of h6 10).trans rfl
          have z11 : W6.cell? ⟨w.heap.size, 11, none⟩ = some (.string { data := #[] }) := (cell_of h6 11).trans rfl
          have z12 : W6.cell? ⟨w.heap.size, 12, none⟩ = some (.string { data := #[] }) := (cell_of h6 12).trans rfl
          clear hW6
          refine bodyPost_ret (v := .tuple #[.agg #[.int .u16 0, .int .u32 0, .int .u8 0, .int .u32 0, .int .u64 0, .int .u32 0, .int .u32 0, .int .u32 0, .int .u64 0, .string { data := #[] }, .string { data := #[] }, .string { data := #[] }, .string { data := #[] }], .int .i64 0, .int .i64 51]) ?_ rfl ⟨by rw [hv.out]; rfl, (HR.out.2.2.2).trans' hm6 (fun j hj e => by omega)⟩
          simp [results, Tryz.f104, go_sem, z0, z1, z2, z3, z4, z5, z6, z7, z8, z9, z10, z11, z12]
        · have t5 : decide ((n : Int) < ((at_ + 2 : Nat) : Int)) = false := by simp; omega
          have htlb : xn s at_ (at_ + 2) < 65536 := xn_lt s at_ 2 (by rw [Hsn.out]; omega)
          have hrx := fun U => read_x s at_ (at_ + 2) U (by omega)
          have m0 : ((at_ + 2 : Nat) : Int) ≤ (s.size : Int) := by rw [Hsn.out]; omega
          have m1 : at_ + 2 ≤ s.size := by rw [Hsn.out]; omega
          have m2 : (at_ : Int) ≤ ((at_ + 2 : Nat) : Int) := by omega
          obtain ⟨tl, htl2⟩ : ∃ t, xn s at_ (at_ + 2) = t := ⟨_, rfl⟩
          rw [htl2] at hbad2 hin htlb hrx
          have hcv : IntKind.i64.wrap (tl : Int) = tl := by rw [IntKind.wrap_i64]; omega
          have hw2 : IntKind.i64.wrap (((at_ + 2 : Nat) : Int) + (tl : Int)) = ((at_ + 2 + tl : Nat) : Int) := by rw [IntKind.wrap_i64]; omega
          clear hbad1 htl htl2
          by_cases c2 : n < at_ + 2 + tl
          · have t6 : decide ((n : Int) < ((at_ + 2 + tl : Nat) : Int)) = true := by simp; omega
            have hv := Lib.hid (HN.out.trans (if_pos (hstop (hbad2 c2))))
            clear hbad2 hin hset hstop hnext
            have r0 : (wr).cell? ⟨w.heap.size, 0, none⟩ = some (.int .u16 0) := (cell_of (HR.out.1) 0).trans rfl
            have rf0 : (wr).frozen? ⟨w.heap.size, 0, none⟩ = false := free_of (HR.out.1) 0
            have r1 : (wr).cell? ⟨w.heap.size, 1, none⟩ = some (.int .u32 0) := (cell_of (HR.out.1) 1).trans rfl
            have rf1 : (wr).frozen? ⟨w.heap.size, 1, none⟩ = false := free_of (HR.out.1) 1
            have r2 : (wr).cell? ⟨w.heap.size, 2, none⟩ = some (.int .u8 0) := (cell_of (HR.out.1) 2).trans rfl
            have rf2 : (wr).frozen? ⟨w.heap.size, 2, none⟩ = false := free_of (HR.out.1) 2
            have r3 : (wr).cell? ⟨w.heap.size, 3, none⟩ = some (.int .u32 0) := (cell_of (HR.out.1) 3).trans rfl
            have rf3 : (wr).frozen? ⟨w.heap.size, 3, none⟩ = false := free_of (HR.out.1) 3
            have r4 : (wr).cell? ⟨w.heap.size, 4, none⟩ = some (.int .u64 0) := (cell_of (HR.out.1) 4).trans rfl
            have rf4 : (wr).frozen? ⟨w.heap.size, 4, none⟩ = false := free_of (HR.out.1) 4
            have r5 : (wr).cell? ⟨w.heap.size, 5, none⟩ = some (.int .u32 0) := (cell_of (HR.out.1) 5).trans rfl
            have rf5 : (wr).frozen? ⟨w.heap.size, 5, none⟩ = false := free_of (HR.out.1) 5
            have r6 : (wr).cell? ⟨w.heap.size, 6, none⟩ = some (.int .u32 0) := (cell_of (HR.out.1) 6).trans rfl
            have rf6 : (wr).frozen? ⟨w.heap.size, 6, none⟩ = false := free_of (HR.out.1) 6
            have r7 : (wr).cell? ⟨w.heap.size, 7, none⟩ = some (.int .u32 0) := (cell_of (HR.out.1) 7).trans rfl
            have rf7 : (wr).frozen? ⟨w.heap.size, 7, none⟩ = false := free_of (HR.out.1) 7
            have r8 : (wr).cell? ⟨w.heap.size, 8, none⟩ = some (.int .u64 0) := (cell_of (HR.out.1) 8).trans rfl
            have rf8 : (wr).frozen? ⟨w.heap.size, 8, none⟩ = false := free_of (HR.out.1) 8
            have r9 : (wr).cell? ⟨w.heap.size, 9, none⟩ = some (.string { data := #[] }) := (cell_of (HR.out.1) 9).trans rfl
            have rf9 : (wr).frozen? ⟨w.heap.size, 9, none⟩ = false := free_of (HR.out.1) 9
            have r10 : (wr).cell? ⟨w.heap.size, 10, none⟩ = some (.string { data := #[] }) := (cell_of (HR.out.1) 10).trans rfl
            have rf10 : (wr).frozen? ⟨w.heap.size, 10, none⟩ = false := free_of (HR.out.1) 10
            have r11 : (wr).cell? ⟨w.heap.size, 11, none⟩ = some (.string { data := #[] }) := (cell_of (HR.out.1) 11).trans rfl
            have rf11 : (wr).frozen? ⟨w.heap.size, 11, none⟩ = false := free_of (HR.out.1) 11
            have r12 : (wr).cell? ⟨w.heap.size, 12, none⟩ = some (.string { data := #[] }) := (cell_of (HR.out.1) 12).trans rfl
            have rf12 : (wr).frozen? ⟨w.heap.size, 12, none⟩ = false := free_of (HR.out.1) 12
            go_wp2_with fail
            refine (hrx _).mono ?_
            rintro e w7 ⟨rfl, rfl⟩
            go_wp2
            obtain ⟨W6, hW6⟩ : ∃ W6, ((((((((((((((wr).setCell ⟨w.heap.size, 0, none⟩ (.int .u16 0)).setCell ⟨w.heap.size, 1, none⟩ (.int .u32 0)).setCell ⟨w.heap.size, 2, none⟩ (.int .u8 0)).setCell ⟨w.heap.size, 3, none⟩ (.int .u32 0)).setCell ⟨w.heap.size, 4, none⟩ (.int .u64 0)).setCell ⟨w.heap.size, 5, none⟩ (.int .u32 0)).setCell ⟨w.heap.size, 6, none⟩ (.int .u32 0)).setCell ⟨w.heap.size, 7, none⟩ (.int .u32 0)).setCell ⟨w.heap.size, 8, none⟩ (.int .u64 0)).setCell ⟨w.heap.size, 9, none⟩ (.string { data := #[] })).setCell ⟨w.heap.size, 10, none⟩ (.string { data := #[] })).setCell ⟨w.heap.size, 11, none⟩ (.string { data := #[] })).setCell ⟨w.heap.size, 12, none⟩ (.string { data := #[] })) = W6 := ⟨_, rfl⟩
            have h6 : W6.heap[w.heap.size]? = some (.cells #[.int .u16 0, .int .u32 0, .int .u8 0, .int .u32 0, .int .u64 0, .int .u32 0, .int .u32 0, .int .u32 0, .int .u64 0, .string { data := #[] }, .string { data := #[] }, .string { data := #[] }, .string { data := #[] }] 31 (0, 0)) := by
              subst hW6
              exact set13 (HR.out.1) (.int .u16 0) (.int .u32 0) (.int .u8 0) (.int .u32 0) (.int .u64 0) (.int .u32 0) (.int .u32 0) (.int .u32 0) (.int .u64 0) (.string { data := #[] }) (.string { data := #[] }) (.string { data := #[] }) (.string { data := #[] })
            have hm6 : Mod (· = w.heap.size) (wr) W6 := by
              subst hW6
              exact mod13 (wr) w.heap.size (.int .u16 0) (.int .u32 0) (.int .u8 0) (.int .u32 0) (.int .u64 0) (.int .u32 0) (.int .u32 0) (.int .u32 0) (.int .u64 0) (.string { data := #[] }) (.string { data := #[] }) (.string { data := #[] }) (.string { data := #[] })
            rw [hW6]
            have z0 : W6.cell? ⟨w.heap.size, 0, none⟩ = some (.int .u16 0) := (cell_of h6 0).trans rfl
            have z1 : W6.cell? ⟨w.heap.size, 1, none⟩ = some (.int .u32 0) := (cell_of h6 1).trans rfl
            have z2 : W6.cell? ⟨w.heap.size, 2, none⟩ = some (.int .u8 0) := (cell_of h6 2).trans rfl
            have z3 : W6.cell? ⟨w.heap.size, 3, none⟩ = some (.int .u32 0) := (cell_of h6 3).trans rfl
            have z4 : W6.cell? ⟨w.heap.size, 4, none⟩ = some (.int .u64 0) := (cell_of h6 4).trans rfl
            have z5 : W6.cell? ⟨w.heap.size, 5, none⟩ = some (.int .u32 0) := (cell_of h6 5).trans rfl
            have z6 : W6.cell? ⟨w.heap.size, 6, none⟩ = some (.int .u32 0) := (cell_of h6 6).trans rfl
            have z7 : W6.cell? ⟨w.heap.size, 7, none⟩ = some (.int .u32 0) := (cell_of h6 7).trans rfl
            have z8 : W6.cell? ⟨w.heap.size, 8, none⟩ = some (.int .u64 0) := (cell_of h6 8).trans rfl
            have z9 : W6.cell? ⟨w.heap.size, 9, none⟩ = some (.string { data := #[] }) := (cell_of h6 9).trans rfl
            have z10 : W6.cell? ⟨w.heap.size, 10, none⟩ = some (.string { data := #[] }) := (cell_of h6 10).trans rfl
            have z11 : W6.cell? ⟨w.heap.size, 11, none⟩ = some (.string { data := #[] }) := (cell_of h6 11).trans rfl
            have z12 : W6.cell? ⟨w.heap.size, 12, none⟩ = some (.string { data := #[] }) := (cell_of h6 12).trans rfl
            clear hW6
            refine bodyPost_ret (v := .tuple #[.agg #[.int .u16 0, .int .u32 0, .int .u8 0, .int .u32 0, .int .u64 0, .int .u32 0, .int .u32 0, .int .u32 0, .int .u64 0, .string { data := #[] }, .string { data := #[] }, .string { data := #[] }, .string { data := #[] }], .int .i64 0, .int .i64 51]) ?_ rfl ⟨by rw [hv.out]; rfl, (HR.out.2.2.2).trans' hm6 (fun j hj e => by omega)⟩
            simp [results, Tryz.f104, go_sem, z0, z1, z2, z3, z4, z5, z6, z7, z8, z9, z10, z11, z12]
          · have t6 : decide ((n : Int) < ((at_ + 2 + tl : Nat) : Int)) = false := by simp; omega
            have hx := hin (by omega)
            have hx1 : ((Rd.mk s 39 0).tq k).text.1 = s.extract (at_ + 2) (at_ + 2 + tl) := by rw [hx]
            have hx2 : ((Rd.mk s 39 0).tq (k + 1)).at_ = at_ + 2 + tl ∧ ((Rd.mk s 39 0).tq (k + 1)).f = 0 := by rw [hnext, hx]; exact ⟨rfl, rfl⟩
            have n0 : ((at_ + 2 + tl : Nat) : Int) ≤ (s.size : Int) := by rw [Hsn.out]; omega
            have n1 : at_ + 2 + tl ≤ s.size := by rw [Hsn.out]; omega
            have n2 : ((at_ + 2 : Nat) : Int) ≤ ((at_ + 2 + tl : Nat) : Int) := by omega
            have i4 : (0 : Int) ≤ (k : Int) := by omega
            have i5 : (k : Int) < 4 := by omega
            have hkc : k < (tsC ⟨s, 39, 0⟩ k).size := by simpa [tsC] using hlt
            have oc : wr.cell? ⟨lb, k, none⟩ = some ((tsC ⟨s, 39, 0⟩ k)[k]) := by rw [cell_of HR.out.2.2.1]; exact Array.getElem?_eq_getElem hkc
            have of_ : wr.frozen? ⟨lb, k, none⟩ = false := free_of HR.out.2.2.1 k
            generalize (tsC ⟨s, 39, 0⟩ k)[k] = oldv at oc
            have HR5 : Hid (RNextT w xb lb #[.int .u16 (xn s 0 2), .int .u32 (xn s 2 6), .int .u8 (xn s 6 7), .int .u32 (xn s 7 11), .int .u64 (xn s 11 19), .int .u32 (xn s 19 23), .int .u32 (xn s 23 27), .int .u32 (xn s 27 31), .int .u64 (xn s 31 39), .string { data := #[] }, .string { data := #[] }, .string { data := #[] }, .string { data := #[] }] (tsC ⟨s, 39, 0⟩ (k + 1)) (wr.setCell ⟨lb, k, none⟩ (.string (s.extract (at_ + 2) (at_ + 2 + tl))))) := by rw [← hset, hx1]; exact HR.out.setL hax hxl k _
            clear hbad2 hin hset hstop hnext hx hx1 hkc
            go_wp2_with fail
            refine (hrx _).mono ?_
            rintro e w7 ⟨rfl, rfl⟩
            go_wp2
            go_roundw
            case rel => exact ⟨k + 1, by omega, by go_num, by rw [hx2.1]; first | (congr 1; done) | (congr 1; omega), hx2.2, HR5⟩
            case measure => simp [intOf]; omega
      · obtain rfl : k = 4 := by omega
        rw [show ((4 : Nat) : Int) = (4 : Int) from rfl]
        have t4 : decide ((4 : Int) < 4) = false := by decide
        have hend : ((Rd.mk s 39 0).tq 4).end_ = if ((Rd.mk s 39 0).tq 4).f ≠ 0 then ((Rd.mk s 39 0).tq 4).f else if ((Rd.mk s 39 0).tq 4).at_ < ((Rd.mk s 39 0).tq 4).s.size then 51 else 0 := rfl
        rw [if_neg (by omega), hXs, Hsn.out] at hend
        have HR4 : Hid (RNextT w xb lb #[.int .u16 (xn s 0 2), .int .u32 (xn s 2 6), .int .u8 (xn s 6 7), .int .u32 (xn s 7 11), .int .u64 (xn s 11 19), .int .u32 (xn s 19 23), .int .u32 (xn s 23 27), .int .u32 (xn s 27 31), .int .u64 (xn s 31 39), .string { data := #[] }, .string { data := #[] }, .string { data := #[] }, .string { data := #[] }] #[.string ((Rd.mk s 39 0).tq 0).text.1, .string ((Rd.mk s 39 0).tq 1).text.1, .string ((Rd.mk s 39 0).tq 2).text.1, .string ((Rd.mk s 39 0).tq 3).text.1] wr) := HR.out
        clear HR HR0 hf hXs
        generalize ((Rd.mk s 39 0).tq 0).text.1 = x0 at *
        generalize ((Rd.mk s 39 0).tq 1).text.1 = x1 at *
        generalize ((Rd.mk s 39 0).tq 2).text.1 = x2 at *
        generalize ((Rd.mk s 39 0).tq 3).text.1 = x3 at *
        obtain ⟨a4, ha4⟩ : ∃ a, ((Rd.mk s 39 0).tq 4).at_ = a := ⟨_, rfl⟩
        rw [ha4] at hend hXa ⊢
        clear ha4
        have HR := HR4
        clear HR4
        by_cases c3 : a4 = n
        · have t7 : ((a4 : Int) != (n : Int)) = false := by simp; omega
          rw [if_neg (by omega)] at hend
          have hv := Lib.hid (HN.out.trans (if_neg (by rw [hend]; decide)))
          clear hend c3
          have l0 : wr.cell? ⟨lb, 0, none⟩ = some (.string x0) := (cell_of HR.out.2.2.1 0).trans rfl
          have o0 : wr.cell? ⟨xb, 9, none⟩ = some (.string { data := #[] }) := (cell_of HR.out.2.1 9).trans rfl
          have of0 : wr.frozen? ⟨xb, 9, none⟩ = false := free_of HR.out.2.1 9
          obtain ⟨U0, hU0⟩ : ∃ U0, wr.setCell ⟨xb, 9, none⟩ (.string x0) = U0 := ⟨_, rfl⟩
          have G0 : Hid (RNextT w xb lb #[.int .u16 (xn s 0 2), .int .u32 (xn s 2 6), .int .u8 (xn s 6 7), .int .u32 (xn s 7 11), .int .u64 (xn s 11 19), .int .u32 (xn s 19 23), .int .u32 (xn s 23 27), .int .u32 (xn s 27 31), .int .u64 (xn s 31 39), .string x0, .string { data := #[] }, .string { data := #[] }, .string { data := #[] }] #[.string x0, .string x1, .string x2, .string x3] U0) := by rw [← hU0]; exact (HR.out.setX hax hxl 9 (.string x0))
          have l1 : U0.cell? ⟨lb, 1, none⟩ = some (.string x1) := (cell_of G0.out.2.2.1 1).trans rfl
          have o1 : U0.cell? ⟨xb, 10, none⟩ = some (.string { data := #[] }) := (cell_of G0.out.2.1 10).trans rfl
          have of1 : U0.frozen? ⟨xb, 10, none⟩ = false := free_of G0.out.2.1 10
          obtain ⟨U1, hU1⟩ : ∃ U1, U0.setCell ⟨xb, 10, none⟩ (.string x1) = U1 := ⟨_, rfl⟩
          have G1 : Hid (RNextT w xb lb #[.int .u16 (xn s 0 2), .int .u32 (xn s 2 6), .int .u8 (xn s 6 7), .int .u32 (xn s 7 11), .int .u64 (xn s 11 19), .int .u32 (xn s 19 23), .int .u32 (xn s 23 27), .int .u32 (xn s 27 31), .int .u64 (xn s 31 39), .string x0, .string x1, .string { data := #[] }, .string { data := #[] }] #[.string x0, .string x1, .string x2, .string x3] U1) := by rw [← hU1]; exact (G0.out.setX hax hxl 10 (.string x1))
          have l2 : U1.cell? ⟨lb, 2, none⟩ = some (.string x2) := (cell_of G1.out.2.2.1 2).trans rfl
          have o2 : U1.cell? ⟨xb, 11, none⟩ = some (.string { data := #[] }) := (cell_of G1.out.2.1 11).trans rfl
          have of2 : U1.frozen? ⟨xb, 11, none⟩ = false := free_of G1.out.2.1 11
          obtain ⟨U2, hU2⟩ : ∃ U2, U1.setCell ⟨xb, 11, none⟩ (.string x2) = U2 := ⟨_, rfl⟩
          have G2 : Hid (RNextT w xb lb #[.int .u16 (xn s 0 2), .int .u32 (xn s 2 6), .int .u8 (xn s 6 7), .int .u32 (xn s 7 11), .int .u64 (xn s 11 19), .int .u32 (xn s 19 23), .int .u32 (xn s 23 27), .int .u32 (xn s 27 31), .int .u64 (xn s 31 39), .string x0, .string x1, .string x2, .string { data := #[] }] #[.string x0, .string x1, .string x2, .string x3] U2) := by rw [← hU2]; exact (G1.out.setX hax hxl 11 (.string x2))
          have l3 : U2.cell? ⟨lb, 3, none⟩ = some (.string x3) := (cell_of G2.out.2.2.1 3).trans rfl
          have o3 : U2.cell? ⟨xb, 12, none⟩ = some (.string { data := #[] }) := (cell_of G2.out.2.1 12).trans rfl
          have of3 : U2.frozen? ⟨xb, 12, none⟩ = false := free_of G2.out.2.1 12
          obtain ⟨U3, hU3⟩ : ∃ U3, U2.setCell ⟨xb, 12, none⟩ (.string x3) = U3 := ⟨_, rfl⟩
          have G3 : Hid (RNextT w xb lb #[.int .u16 (xn s 0 2), .int .u32 (xn s 2 6), .int .u8 (xn s 6 7), .int .u32 (xn s 7 11), .int .u64 (xn s 11 19), .int .u32 (xn s 19 23), .int .u32 (xn s 23 27), .int .u32 (xn s 27 31), .int .u64 (xn s 31 39), .string x0, .string x1, .string x2, .string x3] #[.string x0, .string x1, .string x2, .string x3] U3) := by rw [← hU3]; exact (G2.out.setX hax hxl 12 (.string x3))
          have e0 : U3.cell? ⟨xb, 0, none⟩ = some (.int .u16 (xn s 0 2)) := (cell_of G3.out.2.1 0).trans rfl
          have e1 : U3.cell? ⟨xb, 1, none⟩ = some (.int .u32 (xn s 2 6)) := (cell_of G3.out.2.1 1).trans rfl
          have e2 : U3.cell? ⟨xb, 2, none⟩ = some (.int .u8 (xn s 6 7)) := (cell_of G3.out.2.1 2).trans rfl
          have e3 : U3.cell? ⟨xb, 3, none⟩ = some (.int .u32 (xn s 7 11)) := (cell_of G3.out.2.1 3).trans rfl
          have e4 : U3.cell? ⟨xb, 4, none⟩ = some (.int .u64 (xn s 11 19)) := (cell_of G3.out.2.1 4).trans rfl
          have e5 : U3.cell? ⟨xb, 5, none⟩ = some (.int .u32 (xn s 19 23)) := (cell_of G3.out.2.1 5).trans rfl
          have e6 : U3.cell? ⟨xb, 6, none⟩ = some (.int .u32 (xn s 23 27)) := (cell_of G3.out.2.1 6).trans rfl
          have e7 : U3.cell? ⟨xb, 7, none⟩ = some (.int .u32 (xn s 27 31)) := (cell_of G3.out.2.1 7).trans rfl
          have e8 : U3.cell? ⟨xb, 8, none⟩ = some (.int .u64 (xn s 31 39)) := (cell_of G3.out.2.1 8).trans rfl
          have e9 : U3.cell? ⟨xb, 9, none⟩ = some (.string x0) := (cell_of G3.out.2.1 9).trans rfl
          have e10 : U3.cell? ⟨xb, 10, none⟩ = some (.string x1) := (cell_of G3.out.2.1 10).trans rfl
          have e11 : U3.cell? ⟨xb, 11, none⟩ = some (.string x2) := (cell_of G3.out.2.1 11).trans rfl
          have e12 : U3.cell? ⟨xb, 12, none⟩ = some (.string x3) := (cell_of G3.out.2.1 12).trans rfl
          have r0 : (U3).cell? ⟨w.heap.size, 0, none⟩ = some (.int .u16 0) := (cell_of (G3.out.1) 0).trans rfl
          have rf0 : (U3).frozen? ⟨w.heap.size, 0, none⟩ = false := free_of (G3.out.1) 0
          have r1 : (U3).cell? ⟨w.heap.size, 1, none⟩ = some (.int .u32 0) := (cell_of (G3.out.1) 1).trans rfl
          have rf1 : (U3).frozen? ⟨w.heap.size, 1, none⟩ = false := free_of (G3.out.1) 1
          have r2 : (U3).cell? ⟨w.heap.size, 2, none⟩ = some (.int .u8 0) := (cell_of (G3.out.1) 2).trans rfl
          have rf2 : (U3).frozen? ⟨w.heap.size, 2, none⟩ = false := free_of (G3.out.1) 2
          have r3 : (U3).cell? ⟨w.heap.size, 3, none⟩ = some (.int .u32 0) := (cell_of (G3.out.1) 3).trans rfl
          have rf3 : (U3).frozen? ⟨w.heap.size, 3, none⟩ = false := free_of (G3.out.1) 3
          have r4 : (U3).cell? ⟨w.heap.size, 4, none⟩ = some (.int .u64 0) := (cell_of (G3.out.1) 4).trans rfl
          have rf4 : (U3).frozen? ⟨w.heap.size, 4, none⟩ = false := free_of (G3.out.1) 4
          have r5 : (U3).cell? ⟨w.heap.size, 5, none⟩ = some (.int .u32 0) := (cell_of (G3.out.1) 5).trans rfl
          have rf5 : (U3).frozen? ⟨w.heap.size, 5, none⟩ = false := free_of (G3.out.1) 5
          have r6 : (U3).cell? ⟨w.heap.size, 6, none⟩ = some (.int .u32 0) := (cell_of (G3.out.1) 6).trans rfl
          have rf6 : (U3).frozen? ⟨w.heap.size, 6, none⟩ = false := free_of (G3.out.1) 6
          have r7 : (U3).cell? ⟨w.heap.size, 7, none⟩ = some (.int .u32 0) := (cell_of (G3.out.1) 7).trans rfl
          have rf7 : (U3).frozen? ⟨w.heap.size, 7, none⟩ = false := free_of (G3.out.1) 7
          have r8 : (U3).cell? ⟨w.heap.size, 8, none⟩ = some (.int .u64 0) := (cell_of (G3.out.1) 8).trans rfl
          have rf8 : (U3).frozen? ⟨w.heap.size, 8, none⟩ = false := free_of (G3.out.1) 8
          have r9 : (U3).cell? ⟨w.heap.size, 9, none⟩ = some (.string { data := #[] }) := (cell_of (G3.out.1) 9).trans rfl
          have rf9 : (U3).frozen? ⟨w.heap.size, 9, none⟩ = false := free_of (G3.out.1) 9
          have r10 : (U3).cell? ⟨w.heap.size, 10, none⟩ = some (.string { data := #[] }) := (cell_of (G3.out.1) 10).trans rfl
          have rf10 : (U3).frozen? ⟨w.heap.size, 10, none⟩ = false := free_of (G3.out.1) 10
          have r11 : (U3).cell? ⟨w.heap.size, 11, none⟩ = some (.string { data := #[] }) := (cell_of (G3.out.1) 11).trans rfl
          have rf11 : (U3).frozen? ⟨w.heap.size, 11, none⟩ = false := free_of (G3.out.1) 11
          have r12 : (U3).cell? ⟨w.heap.size, 12, none⟩ = some (.string { data := #[] }) := (cell_of (G3.out.1) 12).trans rfl
          have rf12 : (U3).frozen? ⟨w.heap.size, 12, none⟩ = false := free_of (G3.out.1) 12
          clear G0 G1 G2
          go_wp2
          obtain ⟨W6, hW6⟩ : ∃ W6, ((((((((((((((U3).setCell ⟨w.heap.size, 0, none⟩ (.int .u16 (xn s 0 2))).setCell ⟨w.heap.size, 1, none⟩ (.int .u32 (xn s 2 6))).setCell ⟨w.heap.size, 2, none⟩ (.int .u8 (xn s 6 7))).setCell ⟨w.heap.size, 3, none⟩ (.int .u32 (xn s 7 11))).setCell ⟨w.heap.size, 4, none⟩ (.int .u64 (xn s 11 19))).setCell ⟨w.heap.size, 5, none⟩ (.int .u32 (xn s 19 23))).setCell ⟨w.heap.size, 6, none⟩ (.int .u32 (xn s 23 27))).setCell ⟨w.heap.size, 7, none⟩ (.int .u32 (xn s 27 31))).setCell ⟨w.heap.size, 8, none⟩ (.int .u64 (xn s 31 39))).setCell ⟨w.heap.size, 9, none⟩ (.string x0)).setCell ⟨w.heap.size, 10, none⟩ (.string x1)).setCell ⟨w.heap.size, 11, none⟩ (.string x2)).setCell ⟨w.heap.size, 12, none⟩ (.string x3)) = W6 := ⟨_, rfl⟩
          have h6 : W6.heap[w.heap.size]? = some (.cells #[.int .u16 (xn s 0 2), .int .u32 (xn s 2 6), .int .u8 (xn s 6 7), .int .u32 (xn s 7 11), .int .u64 (xn s 11 19), .int .u32 (xn s 19 23), .int .u32 (xn s 23 27), .int .u32 (xn s 27 31), .int .u64 (xn s 31 39), .string x0, .string x1, .string x2, .string x3] 31 (0, 0)) := by
            subst hW6
            exact set13 (G3.out.1) (.int .u16 (xn s 0 2)) (.int .u32 (xn s 2 6)) (.int .u8 (xn s 6 7)) (.int .u32 (xn s 7 11)) (.int .u64 (xn s 11 19)) (.int .u32 (xn s 19 23)) (.int .u32 (xn s 23 27)) (.int .u32 (xn s 27 31)) (.int .u64 (xn s 31 39)) (.string x0) (.string x1) (.string x2) (.string x3)
          have hm6 : Mod (· = w.heap.size) (U3) W6 := by
            subst hW6
            exact mod13 (U3) w.heap.size (.int .u16 (xn s 0 2)) (.int .u32 (xn s 2 6)) (.int .u8 (xn s 6 7)) (.int .u32 (xn s 7 11)) (.int .u64 (xn s 11 19)) (.int .u32 (xn s 19 23)) (.int .u32 (xn s 23 27)) (.int .u32 (xn s 27 31)) (.int .u64 (xn s 31 39)) (.string x0) (.string x1) (.string x2) (.string x3)
          rw [hW6]
          have z0 : W6.cell? ⟨w.heap.size, 0, none⟩ = some (.int .u16 (xn s 0 2)) := (cell_of h6 0).trans rfl
          have z1 : W6.cell? ⟨w.heap.size, 1, none⟩ = some (.int .u32 (xn s 2 6)) := (cell_of h6 1).trans rfl
          have z2 : W6.cell? ⟨w.heap.size, 2, none⟩ = some (.int .u8 (xn s 6 7)) := (cell_of h6 2).trans rfl
          have z3 : W6.cell? ⟨w.heap.size, 3, none⟩ = some (.int .u32 (xn s 7 11)) := (cell_of h6 3).trans rfl
          have z4 : W6.cell? ⟨w.heap.size, 4, none⟩ = some (.int .u64 (xn s 11 19)) := (cell_of h6 4).trans rfl
          have z5 : W6.cell? ⟨w.heap.size, 5, none⟩ = some (.int .u32 (xn s 19 23)) := (cell_of h6 5).trans rfl
          have z6 : W6.cell? ⟨w.heap.size, 6, none⟩ = some (.int .u32 (xn s 23 27)) := (cell_of h6 6).trans rfl
          have z7 : W6.cell? ⟨w.heap.size, 7, none⟩ = some (.int .u32 (xn s 27 31)) := (cell_of h6 7).trans rfl
          have z8 : W6.cell? ⟨w.heap.size, 8, none⟩ = some (.int .u64 (xn s 31 39)) := (cell_of h6 8).trans rfl
          have z9 : W6.cell? ⟨w.heap.size, 9, none⟩ = some (.string x0) := (cell_of h6 9).trans rfl
          have z10 : W6.cell? ⟨w.heap.size, 10, none⟩ = some (.string x1) := (cell_of h6 10).trans rfl
          have z11 : W6.cell? ⟨w.heap.size, 11, none⟩ = some (.string x2) := (cell_of h6 11).trans rfl
          have z12 : W6.cell? ⟨w.heap.size, 12, none⟩ = some (.string x3) := (cell_of h6 12).trans rfl
          clear hW6
          refine bodyPost_ret (v := .tuple #[.agg #[.int .u16 (xn s 0 2), .int .u32 (xn s 2 6), .int .u8 (xn s 6 7), .int .u32 (xn s 7 11), .int .u64 (xn s 11 19), .int .u32 (xn s 19 23), .int .u32 (xn s 23 27), .int .u32 (xn s 27 31), .int .u64 (xn s 31 39), .string x0, .string x1, .string x2, .string x3], .int .i64 ((2 + n : Nat) : Int), .int .i64 0]) ?_ rfl ⟨by rw [hv.out]; rfl, G3.out.2.2.2.trans' hm6 (fun j hj e => by omega)⟩
          simp [results, Tryz.f104, go_sem, z0, z1, z2, z3, z4, z5, z6, z7, z8, z9, z10, z11, z12]
        · have t7 : ((a4 : Int) != (n : Int)) = true := by simp; omega
          rw [if_pos (by omega)] at hend
          have hv := Lib.hid (HN.out.trans (if_pos (by rw [hend]; decide)))
          clear hend c3
          have r0 : (wr).cell? ⟨w.heap.size, 0, none⟩ = some (.int .u16 0) := (cell_of (HR.out.1) 0).trans rfl
          have rf0 : (wr).frozen? ⟨w.heap.size, 0, none⟩ = false := free_of (HR.out.1) 0
          have r1 : (wr).cell? ⟨w.heap.size, 1, none⟩ = some (.int .u32 0) := (cell_of (HR.out.1) 1).trans rfl
          have rf1 : (wr).frozen? ⟨w.heap.size, 1, none⟩ = false := free_of (HR.out.1) 1
          have r2 : (wr).cell? ⟨w.heap.size, 2, none⟩ = some (.int .u8 0) := (cell_of (HR.out.1) 2).trans rfl
          have rf2 : (wr).frozen? ⟨w.heap.size, 2, none⟩ = false := free_of (HR.out.1) 2
          have r3 : (wr).cell? ⟨w.heap.size, 3, none⟩ = some (.int .u32 0) := (cell_of (HR.out.1) 3).trans rfl
          have rf3 : (wr).frozen? ⟨w.heap.size, 3, none⟩ = false := free_of (HR.out.1) 3
          have r4 : (wr).cell? ⟨w.heap.size, 4, none⟩ = some (.int .u64 0) := (cell_of (HR.out.1) 4).trans rfl
          have rf4 : (wr).frozen? ⟨w.heap.size, 4, none⟩ = false := free_of (HR.out.1) 4
          have r5 : (wr).cell? ⟨w.heap.size, 5, none⟩ = some (.int .u32 0) := (cell_of (HR.out.1) 5).trans rfl
          have rf5 : (wr).frozen? ⟨w.heap.size, 5, none⟩ = false := free_of (HR.out.1) 5
          have r6 : (wr).cell? ⟨w.heap.size, 6, none⟩ = some (.int .u32 0) := (cell_of (HR.out.1) 6).trans rfl
          have rf6 : (wr).frozen? ⟨w.heap.size, 6, none⟩ = false := free_of (HR.out.1) 6
          have r7 : (wr).cell? ⟨w.heap.size, 7, none⟩ = some (.int .u32 0) := (cell_of (HR.out.1) 7).trans rfl
          have rf7 : (wr).frozen? ⟨w.heap.size, 7, none⟩ = false := free_of (HR.out.1) 7
          have r8 : (wr).cell? ⟨w.heap.size, 8, none⟩ = some (.int .u64 0) := (cell_of (HR.out.1) 8).trans rfl
          have rf8 : (wr).frozen? ⟨w.heap.size, 8, none⟩ = false := free_of (HR.out.1) 8
          have r9 : (wr).cell? ⟨w.heap.size, 9, none⟩ = some (.string { data := #[] }) := (cell_of (HR.out.1) 9).trans rfl
          have rf9 : (wr).frozen? ⟨w.heap.size, 9, none⟩ = false := free_of (HR.out.1) 9
          have r10 : (wr).cell? ⟨w.heap.size, 10, none⟩ = some (.string { data := #[] }) := (cell_of (HR.out.1) 10).trans rfl
          have rf10 : (wr).frozen? ⟨w.heap.size, 10, none⟩ = false := free_of (HR.out.1) 10
          have r11 : (wr).cell? ⟨w.heap.size, 11, none⟩ = some (.string { data := #[] }) := (cell_of (HR.out.1) 11).trans rfl
          have rf11 : (wr).frozen? ⟨w.heap.size, 11, none⟩ = false := free_of (HR.out.1) 11
          have r12 : (wr).cell? ⟨w.heap.size, 12, none⟩ = some (.string { data := #[] }) := (cell_of (HR.out.1) 12).trans rfl
          have rf12 : (wr).frozen? ⟨w.heap.size, 12, none⟩ = false := free_of (HR.out.1) 12
          go_wp2
          obtain ⟨W6, hW6⟩ : ∃ W6, ((((((((((((((wr).setCell ⟨w.heap.size, 0, none⟩ (.int .u16 0)).setCell ⟨w.heap.size, 1, none⟩ (.int .u32 0)).setCell ⟨w.heap.size, 2, none⟩ (.int .u8 0)).setCell ⟨w.heap.size, 3, none⟩ (.int .u32 0)).setCell ⟨w.heap.size, 4, none⟩ (.int .u64 0)).setCell ⟨w.heap.size, 5, none⟩ (.int .u32 0)).setCell ⟨w.heap.size, 6, none⟩ (.int .u32 0)).setCell ⟨w.heap.size, 7, none⟩ (.int .u32 0)).setCell ⟨w.heap.size, 8, none⟩ (.int .u64 0)).setCell ⟨w.heap.size, 9, none⟩ (.string { data := #[] })).setCell ⟨w.heap.size, 10, none⟩ (.string { data := #[] })).setCell ⟨w.heap.size, 11, none⟩ (.string { data := #[] })).setCell ⟨w.heap.size, 12, none⟩ (.string { data := #[] })) = W6 := ⟨_, rfl⟩
          have h6 : W6.heap[w.heap.size]? = some (.cells #[.int .u16 0, .int .u32 0, .int .u8 0, .int .u32 0, .int .u64 0, .int .u32 0, .int .u32 0, .int .u32 0, .int .u64 0, .string { data := #[] }, .string { data := #[] }, .string { data := #[] }, .string { data := #[] }] 31 (0, 0)) := by
            subst hW6
            exact set13 (HR.out.1) (.int .u16 0) (.int .u32 0) (.int .u8 0) (.int .u32 0) (.int .u64 0) (.int .u32 0) (.int .u32 0) (.int .u32 0) (.int .u64 0) (.string { data := #[] }) (.string { data := #[] }) (.string { data := #[] }) (.string { data := #[] })
          have hm6 : Mod (· = w.heap.size) (wr) W6 := by
            subst hW6
            exact mod13 (wr) w.heap.size (.int .u16 0) (.int .u32 0) (.int .u8 0) (.int .u32 0) (.int .u64 0) (.int .u32 0) (.int .u32 0) (.int .u32 0) (.int .u64 0) (.string { data := #[] }) (.string { data := #[] }) (.string { data := #[] }) (.string { data := #[] })
          rw [hW6]
          have z0 : W6.cell? ⟨w.heap.size, 0, none⟩ = some (.int .u16 0) := (cell_of h6 0).trans rfl
          have z1 : W6.cell? ⟨w.heap.size, 1, none⟩ = some (.int .u32 0) := (cell_of h6 1).trans rfl
          have z2 : W6.cell? ⟨w.heap.size, 2, none⟩ = some (.int .u8 0) := (cell_of h6 2).trans rfl
          have z3 : W6.cell? ⟨w.heap.size, 3, none⟩ = some (.int .u32 0) := (cell_of h6 3).trans rfl
          have z4 : W6.cell? ⟨w.heap.size, 4, none⟩ = some (.int .u64 0) := (cell_of h6 4).trans rfl
          have z5 : W6.cell? ⟨w.heap.size, 5, none⟩ = some (.int .u32 0) := (cell_of h6 5).trans rfl
          have z6 : W6.cell? ⟨w.heap.size, 6, none⟩ = some (.int .u32 0) := (cell_of h6 6).trans rfl
          have z7 : W6.cell? ⟨w.heap.size, 7, none⟩ = some (.int .u32 0) := (cell_of h6 7).trans rfl
          have z8 : W6.cell? ⟨w.heap.size, 8, none⟩ = some (.int .u64 0) := (cell_of h6 8).trans rfl
          have z9 : W6.cell? ⟨w.heap.size, 9, none⟩ = some (.string { data := #[] }) := (cell_of h6 9).trans rfl
          have z10 : W6.cell? ⟨w.heap.size, 10, none⟩ = some (.string { data := #[] }) := (cell_of h6 10).trans rfl
          have z11 : W6.cell? ⟨w.heap.size, 11, none⟩ = some (.string { data := #[] }) := (cell_of h6 11).trans rfl
          have z12 : W6.cell? ⟨w.heap.size, 12, none⟩ = some (.string { data := #[] }) := (cell_of h6 12).trans rfl
          clear hW6
          refine bodyPost_ret (v := .tuple #[.agg #[.int .u16 0, .int .u32 0, .int .u8 0, .int .u32 0, .int .u64 0, .int .u32 0, .int .u32 0, .int .u32 0, .int .u64 0, .string { data := #[] }, .string { data := #[] }, .string { data := #[] }, .string { data := #[] }], .int .i64 0, .int .i64 51]) ?_ rfl ⟨by rw [hv.out]; rfl, (HR.out.2.2.2).trans' hm6 (fun j hj e => by omega)⟩
          simp [results, Tryz.f104, go_sem, z0, z1, z2, z3, z4, z5, z6, z7, z8, z9, z10, z11, z12]
end Go.Proofs.YtklpopmjpgdjnaaGreatDoor
