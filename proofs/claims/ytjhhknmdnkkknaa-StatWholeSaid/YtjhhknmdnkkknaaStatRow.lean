/- row's iterator: its contract. -/
import Derived.Test.YtjhhknmdnkkknaaStatNext
import Derived.Test.YtjhhknmdnkkknaaPStatAll
import Derived.Test.YtjhhknmdnkkknaaRowLaw
import Derived.Test.YtjhhknmdnkkknaaStatRWin
import Derived.RangeFuncNested
import Derived.RangeFuncBound
import Derived.RangeFuncCalls
import Derived.RangeFuncLeaves
import Derived.RangeFuncFrom
import Derived.Shelf.Abstract
import Derived.Shelf.RegionOpen
import Derived.OwnWalkIn
import Derived.TacticsInMore
import Derived.LoopNIn
import Derived.LoopIn
import Derived.Sort.QuietIn
namespace Go.Proofs.Ytjhhknmdnkkknaa
open Go.RowKit Go.Shelf
attribute [local go_sem] Oper.semAt_some

def rowsS : Nat → ByteArray → List (St × Int)
  | 0, _ => []
  | k + 1, b => if b.size = 0 then [] else if (nextS b).2.2 ≠ 0 then [((nextS b).1, (nextS b).2.2)] else ((nextS b).1, 0) :: rowsS k (b.extract (nextS b).2.1 b.size)
def rowsR (b : ByteArray) : List (St × Int) := rowsS (b.size + 1) b
theorem rowsS_end {k : Nat} {b : ByteArray} (h : b.size = 0) : rowsS k b = [] := by
  cases k with
  | zero => rfl
  | succ k => rw [rowsS, if_pos h]
theorem rowsS_bad {k : Nat} {b : ByteArray} (hk : b.size < k) (h : b.size ≠ 0) (h2 : (nextS b).2.2 ≠ 0) : rowsS k b = [((nextS b).1, (nextS b).2.2)] := by
  obtain ⟨k, rfl⟩ : ∃ j, k = j + 1 := ⟨k - 1, by omega⟩
  rw [rowsS, if_neg h, if_pos h2]
theorem rowsS_step {k : Nat} {b : ByteArray} (hk : b.size < k) (h : b.size ≠ 0) (h2 : (nextS b).2.2 = 0) : ∃ j, k = j + 1 ∧ (b.extract (nextS b).2.1 b.size).size < j ∧ rowsS k b = ((nextS b).1, 0) :: rowsS j (b.extract (nextS b).2.1 b.size) := by
  obtain ⟨k, rfl⟩ : ∃ j, k = j + 1 := ⟨k - 1, by omega⟩
  refine ⟨k, rfl, ?_, ?_⟩
  · have := next_at h2
    rw [ByteArray.size_extract]
    omega
  · rw [rowsS, if_neg h, if_neg (by omega)]
def encsP (x : St × Int) : Array Value := #[x.1.v, .int .i64 x.2]
def strAt (W : World) (B : Nat) : Nat := match W.cell? ⟨B, 0, none⟩ with
  | some (.string s) => s.size
  | _ => 0

set_option maxRecDepth 100000 in
set_option maxHeartbeats 2000000 in
theorem row1_ok (m Bx : Nat) (b : ByteArray) (hb : b.size ≤ 1099511627776) :
    SeqW m Try.prog 62 #[.pointer (some ⟨Bx, 0, none⟩)] encsP Bx (fun W => W.heap[Bx]? = some (.cells #[.string b] 9 (0, 0))) (fun xs => xs = rowsR b) (fun pre => pre <+: rowsR b) := by
  intro l J Jx W ho hJ hJx hY h0
  refine callsIn_of_wp Try.func62 rfl trivial ?_ rfl
  simp only [Try.ntmps62, List.size_toArray, List.length_cons, List.length_nil, Nat.reduceAdd, Nat.reduceSub, Array.replicate_succ, Array.replicate_zero, List.push_toArray, List.append_toArray, List.nil_append, List.cons_append]
  gi_wp2
  gi_loopw [3, 4, 5] (fun _ _ _ wr => ∃ (k : Nat) (rest : ByteArray) (pre : List (St × Int)), rest.size < k ∧ rest.size ≤ b.size ∧ Hid (rowsR b = pre ++ rowsS k rest) ∧ Hid (J pre wr) ∧ Hid (wr.heap[Bx]? = some (.cells #[.string rest] 9 (0, 0)))) (fun _ _ _ wr => strAt wr Bx)
  case atStart => exact ⟨b.size + 1, b, [], by omega, Nat.le_refl _, rfl, h0, ho⟩
  case round =>
    obtain ⟨k, rest, pre, hk, hrb, HP, HJp, HX⟩ := hrel
    have e0 : wr.cell? ⟨Bx, 0, none⟩ = some (.string rest) := (cell_of HX.out 0).trans rfl
    by_cases hz : rest.size = 0
    · have hem : (rest.toList == ([] : List UInt8)) = true := by
        rw [ByteArray.toList_eq]
        have : rest.data.toList.length = rest.size := Array.length_toList
        rw [List.eq_nil_of_length_eq_zero (l := rest.data.toList) (by omega)]; rfl
      gi_wp2
      go_end0
      refine ⟨⟨_, rfl⟩, .inl ⟨pre, ?_, HJp.out⟩⟩
      rw [HP.out, rowsS_end hz, List.append_nil]
    · have hem : (rest.toList == ([] : List UInt8)) = false := ne_empty (by omega)
      have hbad := fun h => rowsS_bad hk hz h
      have hstep := fun h => rowsS_step hk hz h
      have hN := fun U => next_any rest U (by unfold maxLen; omega)
      have hat := @next_at rest
      generalize nextS rest = X at *
      obtain ⟨s, n, er⟩ := X
      simp only at hbad hstep hN hat
      unfold St.v St.cells at hN
      gi_wp2_with fail
      refine ⟨trivial, fun h => (by cases h), (callsIn_wide.2 (hN _)).mono ?_⟩
      rintro e w1 ⟨rfl, m1⟩
      obtain ⟨W2, hW2⟩ : ∃ W2, w1.alloc (.cells s.cells.toArray 28) = W2 := ⟨_, rfl⟩
      have hXb : W2.heap[w1.heap.size]? = some (.cells s.cells.toArray 28 (0, 0)) := by subst hW2; exact new_at _ _
      have m2 : Mod (fun _ => False) w1 W2 := by subst hW2; exact (Mod.refl _ _).alloc _
      have hJ2 := hJ.mod _ _ _ HJp.out (m1.trans m2)
      have hX2 : W2.heap[Bx]? = _ := ((m1.trans m2).block _ (lt_of HX.out) (fun x => x)).trans HX.out
      unfold St.cells at hW2 hXb
      obtain ⟨d0, d1, d2, d3, d4, d5, d6, d7, d8, d9, d10, d11, d12⟩ : ((W2).cell? ⟨w1.heap.size, 0, none⟩ = some (.int .u16 s.ty) ∧ (W2).cell? ⟨w1.heap.size, 1, none⟩ = some (.int .u32 s.dev) ∧ (W2).cell? ⟨w1.heap.size, 2, none⟩ = some (.int .u8 s.qt) ∧ (W2).cell? ⟨w1.heap.size, 3, none⟩ = some (.int .u32 s.qv) ∧ (W2).cell? ⟨w1.heap.size, 4, none⟩ = some (.int .u64 s.qp) ∧ (W2).cell? ⟨w1.heap.size, 5, none⟩ = some (.int .u32 s.mo) ∧ (W2).cell? ⟨w1.heap.size, 6, none⟩ = some (.int .u32 s.at_) ∧ (W2).cell? ⟨w1.heap.size, 7, none⟩ = some (.int .u32 s.mt) ∧ (W2).cell? ⟨w1.heap.size, 8, none⟩ = some (.int .u64 s.len) ∧ (W2).cell? ⟨w1.heap.size, 9, none⟩ = some (.string s.n) ∧ (W2).cell? ⟨w1.heap.size, 10, none⟩ = some (.string s.u) ∧ (W2).cell? ⟨w1.heap.size, 11, none⟩ = some (.string s.g) ∧ (W2).cell? ⟨w1.heap.size, 12, none⟩ = some (.string s.m)) := ⟨(cell_of (w := W2) hXb 0).trans rfl, (cell_of (w := W2) hXb 1).trans rfl, (cell_of (w := W2) hXb 2).trans rfl, (cell_of (w := W2) hXb 3).trans rfl, (cell_of (w := W2) hXb 4).trans rfl, (cell_of (w := W2) hXb 5).trans rfl, (cell_of (w := W2) hXb 6).trans rfl, (cell_of (w := W2) hXb 7).trans rfl, (cell_of (w := W2) hXb 8).trans rfl, (cell_of (w := W2) hXb 9).trans rfl, (cell_of (w := W2) hXb 10).trans rfl, (cell_of (w := W2) hXb 11).trans rfl, (cell_of (w := W2) hXb 12).trans rfl⟩
      have hpx : pre ++ [(s, er)] <+: rowsR b := by
        by_cases he : er ≠ 0
        · rw [HP.out, hbad he]
          exact List.prefix_refl _
        · have he0 : er = 0 := by omega
          obtain ⟨j, _, hj, hr⟩ := hstep he0
          rw [HP.out, hr, he0]
          exact ⟨_, by rw [List.append_assoc]; rfl⟩
      obtain ⟨fn, tmps, assign, body, hy, hR2⟩ := hY pre (s, er) W2 hJ2 hpx
      unfold encsP St.v St.cells at hy
      simp only at hy
      have HX2 := Lib.hid hX2
      clear hXb m1 m2 hJ2 hX2 hN e0 hem
      gi_wp2
      refine ⟨fun h => (by cases h), ?_⟩
      refine hR2.mono ?_
      rintro e W3 (⟨rfl, hJ3, hk3, hs3⟩ | ⟨rfl, hJx3⟩)
      · have HX3 := Lib.hid (hk3.trans HX2.out)
        have HJ3 := Lib.hid hJ3
        clear hk3 hJ3 hs3 d0 d1 d2 d3 d4 d5 d6 d7 d8 d9 d10 d11 d12 hy hR2 hW2
        by_cases he : er ≠ 0
        · have t1 : (er != 0) = true := by simpa using he
          have HB := Lib.hid (hbad he)
          clear hbad hstep hat
          gi_wp2
          refine bodyPost_ret (results_none rfl _ _ _) rfl ?_
          exact ⟨⟨_, rfl⟩, .inl ⟨_, by rw [HP.out, HB.out], HJ3.out⟩⟩
        · have he0 : er = 0 := by omega
          obtain ⟨j, _, hj, hr⟩ := hstep he0
          obtain ⟨g1, g2⟩ := hat he0
          subst he0
          have HPj := Lib.hid (HP.out.trans (congrArg (pre ++ ·) hr))
          have c3 : W3.cell? ⟨Bx, 0, none⟩ = some (.string rest) := (cell_of HX3.out 0).trans rfl
          have f3 : W3.frozen? ⟨Bx, 0, none⟩ = false := free_of HX3.out 0
          have i1 : (n : Int) ≤ (rest.size : Int) := by omega
          have hrs : (rest.extract n rest.size).size = rest.size - n := by rw [ByteArray.size_extract]; omega
          have HX4 : Hid ((W3.setCell ⟨Bx, 0, none⟩ (.string (rest.extract n rest.size))).heap[Bx]? = some (.cells #[.string (rest.extract n rest.size)] 9 (0, 0))) := heap_set HX3.out 0 _
          have HJ4 := Lib.hid (hJ.set _ _ (.string (rest.extract n rest.size)) HJ3.out)
          clear hbad hstep hat hr
          gi_wp2
          go_roundw
          case rel => exact ⟨j, _, pre ++ [(s, 0)], hj, by omega, by show _ = _; rw [HPj.out, List.append_assoc]; rfl, HJ4, HX4⟩
          case measure =>
            have a1 : strAt wr Bx = rest.size := by unfold strAt; rw [cell_of HX.out 0]; rfl
            have a2 : strAt (W3.setCell ⟨Bx, 0, none⟩ (.string (rest.extract n rest.size))) Bx = rest.size - n := by unfold strAt; rw [cell_of HX4.out 0]; exact hrs
            first
              | (show strAt (W3.setCell ⟨Bx, 0, none⟩ (.string (rest.extract n rest.size))) Bx < strAt wr Bx; omega)
              | (simp only [a1, a2]; omega)
      · gi_wp2
        refine bodyPost_ret (results_none rfl _ _ _) rfl ?_
        exact ⟨⟨_, rfl⟩, .inr ⟨_, hpx, hJx3⟩⟩
end Go.Proofs.Ytjhhknmdnkkknaa
