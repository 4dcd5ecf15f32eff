/- The document's Find. -/
import Derived.Test.YtfkmfllhlhefdaaDoorDirRList
namespace Go.Proofs.YtfkmfllhlhefdaaDoor
open Go.RowKit

theorem find_first {l : List Ent} {n : ByteArray} {j : Nat} (hj : j < l.length) (ha : ∀ e ∈ l.take j, e.name ≠ n) (hn : l[j].name = n) : findE l n = some l[j] := by
  unfold findE
  have h1 : l = l.take j ++ (l[j] :: l.drop (j + 1)) := by rw [← List.drop_eq_getElem_cons hj, List.take_append_drop]
  have h2 : (l.take j).find? (fun e => decide (e.name = n)) = none := find_none.2 ha
  generalize l[j] = E at *
  rw [h1, List.find?_append, h2, List.find?_cons_of_pos (by simpa using hn)]
  rfl
set_option maxRecDepth 100000 in
set_option maxHeartbeats 2000000 in
theorem rfind_any (s n : ByteArray) (w : World) (hs : s.size ≤ 1099511627776) (_hn : n.size ≤ 1099511627776) (hT : Tabs w) :
    Calls Tryd.prog 20 #[.string s, .string n] w fun e w' => e = .returned (.tuple #[.int .i64 (findS s n).1, .int .u64 (findS s n).2]) ∧ Mod (fun _ => False) w w' := by
  have hV : Hid (findS s n = match findE ((listS s).getD []) n with | some e => ((e.slot : Int), e.path) | none => (-1, 0)) := rfl
  have hll : ((listS s).getD []).length ≤ s.size := by
    cases h : listS s with
    | none => simp
    | some l =>
      obtain ⟨hd, rfl⟩ := listS_iff.1 h
      have := ents_length (slotsL s) 0
      have h2 := List.countP_le_length (p := fun x => decide (x ≠ freeB)) (l := slotsL s)
      rw [slotsL_length] at h2
      show (entsF (slotsL s) 0).length ≤ _
      omega
  go_enter Tryd.func20, Tryd.ntmps20
  go_wp2_with fail
  refine (rlist_any s _ hs hT).mono ?_
  rintro e w1 ⟨v, rfl, hE, m1⟩
  generalize (listS s).getD [] = l at *
  generalize (listS s).isSome = is at *
  obtain ⟨va, vc, hv, hvc, hvx⟩ := hE.form
  subst hv
  clear hE
  go_wp2
  go_loop [4, 5, 8] (fun a b i => ∃ j : Nat, j ≤ l.length ∧ a = .int .i64 0 ∧ b = .int .u64 0 ∧ i = .int .i64 j ∧ Hid (∀ e ∈ l.take j, e.name ≠ n)) (fun _ _ i => l.length - (intOf i).toNat)
  case atStart => exact ⟨0, by omega, rfl, rfl, rfl, fun e he => (by simp at he)⟩
  case round =>
    obtain ⟨j, hj, rfl, rfl, rfl, HA⟩ := hrel
    by_cases hjl : j < l.length
    · obtain ⟨g, off, rfl, _, hg, hc⟩ := hvx j l[j] (List.getElem?_eq_getElem hjl)
      have t5 : decide ((j : Int) < (l.length : Int)) = true := by simp; omega
      have c0 : w1.cell? ⟨g, off + j * 3, none⟩ = some (.int .i64 l[j].slot) := hc 0 _ rfl
      have c1 : w1.cell? ⟨g, off + j * 3 + 1, none⟩ = some (.int .u64 l[j].path) := hc 1 _ rfl
      have c2 : w1.cell? ⟨g, off + j * 3 + 2, none⟩ = some (.string l[j].name) := hc 2 _ rfl
      have j1 : (0 : Int) ≤ (j : Int) := by omega
      have j2 : (j : Int) < (l.length : Int) := by omega
      have j3 : (l.length : Int) ≤ (vc : Int) := by omega
      have hq := toList_beq l[j].name n
      have hff := find_first hjl HA.out
      have hstep : l.take (j + 1) = l.take j ++ [l[j]] := List.take_succ_eq_append_getElem hjl
      generalize l[j] = E at *
      clear hvx hc
      by_cases hnm : E.name = n
      · have u1 : (E.name.toList == n.toList) = true := by rw [hq, hnm]; simp
        have hR : Hid (findS s n = ((E.slot : Int), E.path)) := by show _ = _; rw [hV.out, hff hnm]
        clear hq hnm hstep hff
        go_wp2
        go_quiet (fail)
        go_wp2
        go_ret2
        exact ⟨by rw [hR.out]; rfl, m1.drewN _⟩
      have u1 : (E.name.toList == n.toList) = false := by
        rw [hq, decide_eq_false_iff_not]
        exact fun e => hnm (ByteArray.ext (Array.ext' e))
      have HA2 : Hid (∀ e ∈ l.take (j + 1), e.name ≠ n) := by
        rw [hstep]
        intro e he
        rcases List.mem_append.1 he with h | h
        · exact HA.out e h
        · rw [List.mem_singleton.1 h]; exact hnm
      clear hq hnm hstep hff
      go_wp2
      go_round
      case rel => exact ⟨j + 1, hjl, rfl, rfl, by go_num, HA2⟩
      case measure => simp [intOf]; omega
    · obtain rfl : j = l.length := by omega
      have t5 : decide ((l.length : Int) < (l.length : Int)) = false := by simp
      have hHA := HA.out
      rw [List.take_length] at hHA
      have hR : Hid (findS s n = (-1, 0)) := by show _ = _; rw [hV.out, find_none.2 hHA]
      clear hvx hHA
      go_wp2
      go_ret2
      exact ⟨by rw [hR.out]; rfl, m1⟩
end Go.Proofs.YtfkmfllhlhefdaaDoor
