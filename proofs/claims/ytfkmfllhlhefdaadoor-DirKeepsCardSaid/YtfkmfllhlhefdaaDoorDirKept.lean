/- The statement's helper kept. -/
import Derived.Test.YtfkmfllhlhefdaaDoorDirWorks
namespace Go.Proofs.YtfkmfllhlhefdaaDoor
open Go.RowKit

set_option maxHeartbeats 2000000 in
set_option maxRecDepth 100000 in
theorem kept_any (s but : ByteArray) (v : Value) (l : List Ent) (w : World) (hE : EntsAt w (fun _ => True) v l) (hk : keptS s l but = true) (hs : s.size ≤ 1099511627776) (hlen : l.length ≤ 140737488355328)
    (hnl : ∀ e ∈ l, e.name.size ≤ 1099511627776) (hT : Tabs w) :
    Calls Tryd.prog 26 #[.string s, v, .string but] w fun e w' => e = .returned (.bool true) ∧ Mod (fun _ => False) w w' := by
  obtain ⟨a1, cap1, rfl, hcap1, hx1⟩ := hE.form
  clear hE
  have hK : Hid (∀ e ∈ l, e.name = but ∨ findS s e.name = ((e.slot : Int), e.path)) := by
    intro e he
    unfold keptS at hk
    have := List.all_eq_true.1 hk e he
    simpa using this
  have HN := Lib.hid hnl
  clear hnl hk
  go_enter Tryd.func26, Tryd.ntmps26
  go_wp2
  go_loopw [6, 7] (fun r i wr => ∃ (k : Nat), k ≤ l.length ∧ r = .bool false ∧ i = .int .i64 k ∧ Hid (Mod (fun _ => False) w wr)) (fun _ i _ => l.length - (intOf i).toNat)
  case atStart => exact ⟨0, by omega, rfl, rfl, Mod.refl _ _⟩
  case round =>
    obtain ⟨k, hk, rfl, rfl, HM⟩ := hrel
    by_cases hlt : k < l.length
    · obtain ⟨g1, o1, rfl, _, hg1, hc1⟩ := hx1 k l[k] (List.getElem?_eq_getElem hlt)
      have hn := HN.out l[k] (List.getElem_mem hlt)
      have hq := hK.out l[k] (List.getElem_mem hlt)
      generalize l[k] = E at *
      have t1 : decide ((k : Int) < (l.length : Int)) = true := by simp; omega
      have c0 := keepR HM.out (hc1 0 (.int .i64 E.slot) rfl)
      have c1 := keepR HM.out (hc1 1 (.int .u64 E.path) rfl)
      have c2 := keepR HM.out (hc1 2 (.string E.name) rfl)
      rw [Nat.add_zero] at c0
      have i1 : (0 : Int) ≤ (k : Int) := by omega
      have i2 : (k : Int) < (l.length : Int) := by omega
      have i3 : (l.length : Int) ≤ (cap1 : Int) := by omega
      have hF := find_any s E.name _ hs hn (hT.mod HM.out)
      have hb := toList_beq E.name but
      clear hc1 hx1
      go_wp2_with fail
      refine hF.mono ?_
      rintro e w2 ⟨rfl, m2⟩
      have c0 := keepR m2 c0
      have c1 := keepR m2 c1
      have c2 := keepR m2 c2
      have HM2 := Lib.hid (HM.out.trans m2)
      clear m2 HM hF
      by_cases hnm : E.name = but
      · have u1 : (E.name.toList == but.toList) = true := by rw [hb, hnm]; simp
        clear hq hb hnm
        go_wp2
        go_roundw
        case rel => exact ⟨k + 1, hlt, rfl, by go_num, HM2⟩
        case measure => simp [intOf]; omega
      · have u1 : (E.name.toList == but.toList) = false := by
          rw [hb, decide_eq_false_iff_not]
          exact fun e => hnm (ByteArray.ext (Array.ext' e))
        have hq := hq.resolve_left hnm
        rw [hq]
        have v1 : ((E.slot : Int) != (E.slot : Int)) = false := by simp
        have v2 : ((E.path : Int) != (E.path : Int)) = false := by simp
        clear hq hb hnm
        go_wp2
        go_roundw
        case rel => exact ⟨k + 1, hlt, rfl, by go_num, HM2⟩
        case measure => simp [intOf]; omega
    · obtain rfl : k = l.length := by omega
      have t1 : decide ((l.length : Int) < (l.length : Int)) = false := by simp
      clear hx1
      go_wp2
      go_ret
      exact ⟨rfl, HM.out⟩
end Go.Proofs.YtfkmfllhlhefdaaDoor
