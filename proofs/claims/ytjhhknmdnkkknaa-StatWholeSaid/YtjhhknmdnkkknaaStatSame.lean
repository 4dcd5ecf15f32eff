/- same: two rows of the same stats. -/
import Derived.Test.YtjhhknmdnkkknaaSts
import Derived.Test.YtjhhknmdnkkknaaStatEq
namespace Go.Proofs.Ytjhhknmdnkkknaa
open Go.RowKit

set_option maxRecDepth 100000 in
set_option maxHeartbeats 2000000 in
theorem same_any (v1 v2 : Value) (l : List St) (w : World) (h1 : StsAt w (fun _ => True) v1 l) (h2 : StsAt w (fun _ => True) v2 l) (hlen : l.length ≤ 140737488355328) :
    Calls Try.prog 16 #[v1, v2] w fun e w' => e = .returned (.bool true) ∧ Mod (fun _ => False) w w' := by
  obtain ⟨a1, cap1, rfl, hcap1, hx1⟩ := h1.form
  obtain ⟨a2, cap2, rfl, hcap2, hx2⟩ := h2.form
  have t0 : ((l.length : Int) != (l.length : Int)) = false := by simp
  go_enter Try.func16, Try.ntmps16
  go_wp2
  go_loopw [4, 5] (fun _ i wr => ∃ (k : Nat), k ≤ l.length ∧ i = .int .i64 k ∧ Hid (Mod (fun _ => False) w wr)) (fun _ i _ => l.length - (intOf i).toNat)
  case atStart => exact ⟨0, by omega, rfl, Mod.refl _ _⟩
  case round =>
    obtain ⟨k, hk, rfl, HM⟩ := hrel
    by_cases hlt : k < l.length
    · obtain ⟨g1, o1, rfl, _, hg1, hc1⟩ := hx1 k l[k] (List.getElem?_eq_getElem hlt)
      obtain ⟨g2, o2, rfl, _, hg2, hc2⟩ := hx2 k l[k] (List.getElem?_eq_getElem hlt)
      generalize l[k] = s at *
      have t1 : decide ((k : Int) < (l.length : Int)) = true := by simp; omega
      have hd1 : ∀ i u, s.cells[i]? = some u → wr.cell? ⟨g1, o1 + k * 13 + i, none⟩ = some u := fun i u hu => (World.cell?_of_block (a := ⟨g1, o1 + k * 13 + i, none⟩) (HM.out.block g1 hg1 (fun x => x))).trans (hc1 i u hu)
      have hd2 : ∀ i u, s.cells[i]? = some u → wr.cell? ⟨g2, o2 + k * 13 + i, none⟩ = some u := fun i u hu => (World.cell?_of_block (a := ⟨g2, o2 + k * 13 + i, none⟩) (HM.out.block g2 hg2 (fun x => x))).trans (hc2 i u hu)
      have c0 : (wr).cell? ⟨g1, o1 + k * 13, none⟩ = some (.int .u16 (s).ty) := hd1 0 _ rfl
      have c1 := hd1 1 _ rfl
      have c2 := hd1 2 _ rfl
      have c3 := hd1 3 _ rfl
      have c4 := hd1 4 _ rfl
      have c5 := hd1 5 _ rfl
      have c6 := hd1 6 _ rfl
      have c7 := hd1 7 _ rfl
      have c8 := hd1 8 _ rfl
      have c9 := hd1 9 _ rfl
      have c10 := hd1 10 _ rfl
      have c11 := hd1 11 _ rfl
      have c12 := hd1 12 _ rfl
      have d0 : (wr).cell? ⟨g2, o2 + k * 13, none⟩ = some (.int .u16 (s).ty) := hd2 0 _ rfl
      have d1 := hd2 1 _ rfl
      have d2 := hd2 2 _ rfl
      have d3 := hd2 3 _ rfl
      have d4 := hd2 4 _ rfl
      have d5 := hd2 5 _ rfl
      have d6 := hd2 6 _ rfl
      have d7 := hd2 7 _ rfl
      have d8 := hd2 8 _ rfl
      have d9 := hd2 9 _ rfl
      have d10 := hd2 10 _ rfl
      have d11 := hd2 11 _ rfl
      have d12 := hd2 12 _ rfl
      have hne := neq_any s s
      rw [(eqS_iff s s).2 rfl] at hne
      unfold St.v St.cells at hne
      have i1 : (0 : Int) ≤ (k : Int) := by omega
      have i2 : (k : Int) < (l.length : Int) := by omega
      have i3 : (l.length : Int) ≤ (cap1 : Int) := by omega
      have i4 : (l.length : Int) ≤ (cap2 : Int) := by omega
      clear hc1 hc2 hd1 hd2
      go_wp2
      go_quiet (fail)
      go_wp2
      go_roundw
      case rel => exact ⟨k + 1, hlt, by go_num, Lib.hid (by first | exact HM.out | exact HM.out.drewN _ | exact HM.out.drew)⟩
      case measure => simp [intOf]; omega
    · obtain rfl : k = l.length := by omega
      have t1 : decide ((l.length : Int) < (l.length : Int)) = false := by simp
      go_wp2
      go_ret
      exact ⟨rfl, HM.out⟩
end Go.Proofs.Ytjhhknmdnkkknaa
