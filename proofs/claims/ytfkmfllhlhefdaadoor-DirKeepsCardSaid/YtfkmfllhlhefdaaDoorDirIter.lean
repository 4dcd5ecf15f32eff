/- slots' iterator: its contract. -/
import Derived.Test.YtfkmfllhlhefdaaDoorPDir
import Derived.Test.YtfkmfllhlhefdaaDoorRowLaw
import Derived.RangeFuncNested
import Derived.RangeFuncBound
import Derived.RangeFuncCalls
import Derived.RangeFuncLeaves
import Derived.RangeFuncFrom
import Derived.Shelf.Abstract
import Derived.Shelf.RegionOpen
import Derived.OwnWalkIn
import Derived.TacticsInMore
import Derived.LoopNIn
import Derived.LoopIn
import Derived.Sort.QuietIn
namespace Go.Proofs.YtfkmfllhlhefdaaDoor
open Go.RowKit Go.Shelf
attribute [local go_sem] Oper.semAt_some

def rowsD (s : ByteArray) : List (Nat × ByteArray) := (List.range (s.size / 64)).map fun i => (i, slotAt s i)
def encsD (x : Nat × ByteArray) : Array Value := #[.int .i64 x.1, .string x.2]
theorem rowsD_length (s : ByteArray) : (rowsD s).length = s.size / 64 := by rw [rowsD, List.length_map, List.length_range]
theorem rowsD_take (s : ByteArray) (k : Nat) (h : k < s.size / 64) : (rowsD s).take (k + 1) = (rowsD s).take k ++ [(k, slotAt s k)] := by
  rw [List.take_succ_eq_append_getElem (by rw [rowsD_length]; exact h)]
  simp only [rowsD, List.getElem_map, List.getElem_range]

set_option maxRecDepth 100000 in
set_option maxHeartbeats 2000000 in
theorem slots1_ok (m Bx : Nat) (s : ByteArray) (hb : s.size ≤ 1099511627776) :
    SeqW m Tryd.prog 45 #[.pointer (some ⟨Bx, 0, none⟩)] encsD Bx (fun W => W.heap[Bx]? = some (.cells #[.string s] 9 (0, 0))) (fun xs => xs = rowsD s) (fun pre => pre <+: rowsD s) := by
  intro l J Jx W ho hJ hJx hY h0
  refine callsIn_of_wp Tryd.func45 rfl trivial ?_ rfl
  simp only [Tryd.ntmps45, List.size_toArray, List.length_cons, List.length_nil, Nat.reduceAdd, Nat.reduceSub, Array.replicate_succ, Array.replicate_zero, List.push_toArray, List.append_toArray, List.nil_append, List.cons_append]
  gi_wp2
  gi_loopw [3] (fun i wr => ∃ k : Nat, k ≤ s.size / 64 ∧ i = .int .i64 k ∧ Hid (J ((rowsD s).take k) wr) ∧ Hid (wr.heap[Bx]? = some (.cells #[.string (s.extract (64 * k) s.size)] 9 (0, 0)))) (fun i _ => s.size / 64 - (intOf i).toNat)
  case atStart => exact ⟨0, by omega, rfl, h0, by show _ = _; rw [ho]; simp [ByteArray.extract_zero_size]⟩
  case round =>
    obtain ⟨k, hk, rfl, HJp, HX⟩ := hrel
    obtain ⟨rest, hrest⟩ : ∃ rest, s.extract (64 * k) s.size = rest := ⟨_, rfl⟩
    rw [hrest] at HX
    have hrz : rest.size = s.size - 64 * k := by rw [← hrest, ByteArray.size_extract]; omega
    have e0 : wr.cell? ⟨Bx, 0, none⟩ = some (.string rest) := (cell_of HX.out 0).trans rfl
    by_cases hlt : k < s.size / 64
    · have t1 : decide (64 ≤ (rest.size : Int)) = true := by simp; omega
      have hpx : (rowsD s).take k ++ [(k, slotAt s k)] <+: rowsD s := by rw [← rowsD_take s k hlt]; exact List.take_prefix _ _
      have hsl : rest.extract 0 64 = slotAt s k := by
        rw [← hrest, slotAt, ByteArray.extract_extract]
        congr 1 <;> omega
      have i1 : (64 : Int) ≤ (rest.size : Int) := by omega
      have i2 : 64 ≤ rest.size := by omega
      obtain ⟨fn, tmps, assign, body, hy, hR2⟩ := hY _ (k, slotAt s k) wr HJp.out hpx
      unfold encsD at hy
      simp only at hy
      rw [← hsl] at hy
      have HR := Lib.hid hrest
      have HPX := Lib.hid hpx
      clear hrest hrz hpx
      have HX' := HX
      have HE := Lib.hid hsl
      clear hsl
      gi_wp2
      refine ⟨fun h => (by cases h), ?_⟩
      refine hR2.mono ?_
      rintro e W3 (⟨rfl, hJ3, hk3, hs3⟩ | ⟨rfl, hJx3⟩)
      · have HX3 := Lib.hid (hk3.trans HX'.out)
        have HJ3 := Lib.hid hJ3
        clear hk3 hJ3 hs3 hy hR2
        have c3 : W3.cell? ⟨Bx, 0, none⟩ = some (.string rest) := (cell_of HX3.out 0).trans rfl
        have f3 : W3.frozen? ⟨Bx, 0, none⟩ = false := free_of HX3.out 0
        have HX4 : Hid ((W3.setCell ⟨Bx, 0, none⟩ (.string (rest.extract 64 rest.size))).heap[Bx]? = some (.cells #[.string (rest.extract 64 rest.size)] 9 (0, 0))) := heap_set HX3.out 0 _
        have HJ4 := Lib.hid (hJ.set _ _ (.string (rest.extract 64 rest.size)) HJ3.out)
        have hw : IntKind.i64.wrap ((k : Int) + 1) = ((k + 1 : Nat) : Int) := by rw [IntKind.wrap_i64]; omega
        gi_wp2
        go_roundw
        case rel =>
          refine ⟨k + 1, by omega, by congr 1, ?_, ?_⟩
          · show J _ _
            rw [rowsD_take s k hlt]
            exact HJ4.out
          · have e4 : rest.extract 64 rest.size = s.extract (64 * (k + 1)) s.size := by
              rw [← HR.out, ByteArray.extract_extract]
              congr 1 <;> (try rw [ByteArray.size_extract]) <;> omega
            rw [← e4]
            exact HX4
        case measure => simp [intOf]; omega
      · gi_wp2
        refine bodyPost_ret (results_none rfl _ _ _) rfl ?_
        exact ⟨⟨_, rfl⟩, .inr ⟨_, HPX.out, hJx3⟩⟩
    · have t1 : decide (64 ≤ (rest.size : Int)) = false := by simp; omega
      have hkn : k = s.size / 64 := by omega
      have HJp2 : Hid (J (rowsD s) wr) := by
        have := HJp.out
        rw [List.take_of_length_le (by rw [rowsD_length]; omega)] at this
        exact this
      gi_wp2
      go_end0
      exact ⟨⟨_, rfl⟩, .inl ⟨_, rfl, HJp2.out⟩⟩
end Go.Proofs.YtfkmfllhlhefdaaDoor
