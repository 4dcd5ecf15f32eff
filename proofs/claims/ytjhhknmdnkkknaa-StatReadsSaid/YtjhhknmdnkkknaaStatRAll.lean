/- The document's All. -/
import Derived.Test.YtjhhknmdnkkknaaStatRDec
import Derived.Test.YtjhhknmdnkkknaaPStatAll
import Derived.Test.YtjhhknmdnkkknaaStsOwn
import Derived.Test.YtjhhknmdnkkknaaStatRWin
namespace Go.Proofs.Ytjhhknmdnkkknaa
open Go.RowKit

def strLen : Value → Nat
  | .string b => b.size
  | _ => 0
set_option maxRecDepth 100000 in
set_option maxHeartbeats 4000000 in
theorem rall_any (b : ByteArray) (w : World) (hb : b.size ≤ 1099511627776) :
    Calls Try.prog 22 #[.string b] w fun e w' => ∃ v, e = .returned (.tuple #[v, .int .i64 (allR b).2]) ∧ OwnA w' w.heap.size 13 v (allR b).1.length (flatS (allR b).1) ∧ Mod (fun _ => False) w w' := by
  have HR : Hid (allR b = allS (b.size + 1) b []) := rfl
  generalize allR b = R at *
  go_enter Try.func22, Try.ntmps22
  go_wp2
  go_loopw [0, 2, 3, 4, 5, 6, 7] (fun x _ _ v _ _ _ wr => ∃ (k : Nat) (rest : ByteArray) (acc : List St), x = .string rest ∧ rest.size < k ∧ Hid (R = allS k rest acc) ∧ OwnA wr w.heap.size 13 v acc.length (flatS acc) ∧ acc.length + rest.size ≤ b.size ∧ Hid (Mod (fun _ => False) w wr)) (fun x _ _ _ _ _ _ _ => strLen x)
  case atStart => exact ⟨b.size + 1, b, [], rfl, by omega, HR, OwnA.nil _ _ _, by simp, Mod.refl _ _⟩
  case round =>
    obtain ⟨k, rest, acc, rfl, hk, HA, hown, hle, HM⟩ := hrel
    by_cases hz : rest.size = 0
    · have hem : (rest.toList == ([] : List UInt8)) = true := by
        rw [ByteArray.toList_eq]
        have : rest.data.toList.length = rest.size := Array.length_toList
        rw [List.eq_nil_of_length_eq_zero (l := rest.data.toList) (by omega)]; rfl
      have HV := Lib.hid (HA.out.trans (allS_end hk hz))
      go_wp2
      go_ret2
      exact ⟨_, by rw [HV.out]; rfl, by rw [HV.out]; exact hown, HM.out⟩
    · have hem : (rest.toList == ([] : List UInt8)) = false := ne_empty (by omega)
      have hbad := fun h => allS_bad (acc := acc) hk hz h
      have hstep := fun h => allS_step (acc := acc) hk hz h
      have hN := fun U => rnext_any rest U (by omega)
      have hat := @next_at rest
      generalize nextS rest = X at *
      obtain ⟨s, n, er⟩ := X
      simp only at hbad hstep hN hat
      unfold St.v St.cells at hN
      go_wp2_with fail
      refine (hN _).mono ?_
      rintro e w1 ⟨rfl, m1⟩
      obtain ⟨W2, hW2⟩ : ∃ W2, w1.alloc (.cells s.cells.toArray 28) = W2 := ⟨_, rfl⟩
      have hX : W2.heap[w1.heap.size]? = some (.cells s.cells.toArray 28 (0, 0)) := by subst hW2; exact new_at _ _
      have m2 : Mod (fun _ => False) w1 W2 := by subst hW2; exact (Mod.refl _ _).alloc _
      have hown2 := (hown.mod m1 (fun _ _ x => x)).mod m2 (fun _ _ x => x)
      have HM2 := Lib.hid ((HM.out.trans m1).trans m2)
      unfold St.cells at hX hW2
      obtain ⟨d0, d1, d2, d3, d4, d5, d6, d7, d8, d9, d10, d11, d12⟩ : ((W2).cell? ⟨w1.heap.size, 0, none⟩ = some (.int .u16 s.ty) ∧ (W2).cell? ⟨w1.heap.size, 1, none⟩ = some (.int .u32 s.dev) ∧ (W2).cell? ⟨w1.heap.size, 2, none⟩ = some (.int .u8 s.qt) ∧ (W2).cell? ⟨w1.heap.size, 3, none⟩ = some (.int .u32 s.qv) ∧ (W2).cell? ⟨w1.heap.size, 4, none⟩ = some (.int .u64 s.qp) ∧ (W2).cell? ⟨w1.heap.size, 5, none⟩ = some (.int .u32 s.mo) ∧ (W2).cell? ⟨w1.heap.size, 6, none⟩ = some (.int .u32 s.at_) ∧ (W2).cell? ⟨w1.heap.size, 7, none⟩ = some (.int .u32 s.mt) ∧ (W2).cell? ⟨w1.heap.size, 8, none⟩ = some (.int .u64 s.len) ∧ (W2).cell? ⟨w1.heap.size, 9, none⟩ = some (.string s.n) ∧ (W2).cell? ⟨w1.heap.size, 10, none⟩ = some (.string s.u) ∧ (W2).cell? ⟨w1.heap.size, 11, none⟩ = some (.string s.g) ∧ (W2).cell? ⟨w1.heap.size, 12, none⟩ = some (.string s.m)) := ⟨(cell_of (w := W2) hX 0).trans rfl, (cell_of (w := W2) hX 1).trans rfl, (cell_of (w := W2) hX 2).trans rfl, (cell_of (w := W2) hX 3).trans rfl, (cell_of (w := W2) hX 4).trans rfl, (cell_of (w := W2) hX 5).trans rfl, (cell_of (w := W2) hX 6).trans rfl, (cell_of (w := W2) hX 7).trans rfl, (cell_of (w := W2) hX 8).trans rfl, (cell_of (w := W2) hX 9).trans rfl, (cell_of (w := W2) hX 10).trans rfl, (cell_of (w := W2) hX 11).trans rfl, (cell_of (w := W2) hX 12).trans rfl⟩
      clear hX m1 m2 hN hown
      by_cases he : er ≠ 0
      · have t1 : (er != 0) = true := by simpa using he
        have HV := Lib.hid (HA.out.trans (hbad he))
        clear hstep hat hbad
        go_wp2
        go_ret2
        exact ⟨_, by rw [HV.out]; rfl, by rw [HV.out]; exact OwnA.nil _ _ _, HM2.out⟩
      · have he0 : er = 0 := by omega
        obtain ⟨j, _, hj, hA2⟩ := hstep he0
        have HV := Lib.hid (HA.out.trans hA2)
        obtain ⟨g1, g2⟩ := hat he0
        subst he0
        have hrs : (rest.extract n rest.size).size = rest.size - n := by rw [ByteArray.size_extract]; omega
        have i1 : (n : Int) ≤ (rest.size : Int) := by omega
        have i2 : (0 : Int) ≤ (n : Int) := by omega
        have C1 : Hid ((acc.length + 1) * 112 ≤ 140737488355328) := by show _ ≤ _; omega
        have C2 : Hid (acc.length + 1 ≤ 9223372036854775807) := by show _ ≤ _; omega
        have C3 : Hid (w.heap.size ≤ (W2.alloc (.cells s.cells.toArray 28)).heap.size) := by show _ ≤ _; rw [World.size_alloc]; have := HM2.out.size; omega
        have C5 : Hid (Src Try.prog 13 30 (.slice (some ⟨W2.heap.size, 0, none⟩) 1 1) 1 (flatS [s]) (W2.alloc (.cells s.cells.toArray 28))) := src_sts (stsFlat _ (fun _ => True) W2.heap.size [s] 1 28 (by rw [show ([s].flatMap St.cells) = s.cells from by simp]; exact new_at _ _) (by simp) trivial) rfl
        have hown4 := hown2.mod (S := fun _ => False) ((Mod.refl _ W2).alloc (.cells s.cells.toArray 28)) (fun _ _ x => x)
        unfold St.cells at C3 C5 hown4
        clear hstep hbad hat hA2
        go_wp2_with (refine wpl_append rfl (.tmp 19) (.tmp 21) _ _ rfl w.heap.size 28 (.agg #[.int .u16 0, .int .u32 0, .int .u8 0, .int .u32 0, .int .u64 0, .int .u32 0, .int .u32 0, .int .u32 0, .int .u64 0, .string { data := #[] }, .string { data := #[] }, .string { data := #[] }, .string { data := #[] }]) 13 112 Try.underlying30 info_stat rfl (by decide) _ _ _ rfl hown4 _ 1 _ rfl C5.out C1.out C2.out C3.out ?_; intro v' w5 hown' hgrow)
        go_roundw
        case rel =>
          refine ⟨j, rest.extract n rest.size, acc ++ [s], rfl, hj, HV, ?_, by rw [List.length_append, hrs]; simp; omega, hown4.thenMod (HM2.out.alloc _) hgrow (Nat.le_refl _)⟩
          rw [flatS_append, List.length_append]
          exact hown'
        case measure => simp [strLen]; omega
end Go.Proofs.Ytjhhknmdnkkknaa
