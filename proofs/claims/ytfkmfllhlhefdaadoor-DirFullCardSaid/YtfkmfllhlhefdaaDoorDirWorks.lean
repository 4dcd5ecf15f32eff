/- The statements' helpers: heavy, same, kept, works. -/
import Derived.Test.YtfkmfllhlhefdaaDoorDirOps2
import Derived.Test.YtfkmfllhlhefdaaDoorPDirLaw
namespace Go.Proofs.YtfkmfllhlhefdaaDoor
open Go.RowKit

set_option maxHeartbeats 1000000 in
set_option maxRecDepth 100000 in
theorem heavy_any (s n o : ByteArray) (w : World) (_hs : s.size ≤ 9223372036854775807) (_hn : n.size ≤ 9223372036854775807) (_ho : o.size ≤ 9223372036854775807) :
    Calls Tryd.prog 8 #[.string s, .string n, .string o] w fun e w' => e = .returned (.bool (heavyS s n o)) ∧ w' = w := by
  have e1 : decide ((4480 : Int) < (s.size : Int)) = decide (4480 < s.size) := by congr 1; simp; omega
  have e2 : decide ((4096 : Int) < (n.size : Int)) = decide (4096 < n.size) := by congr 1; simp; omega
  have e3 : decide ((4096 : Int) < (o.size : Int)) = decide (4096 < o.size) := by congr 1; simp; omega
  have hV : Hid (heavyS s n o = (decide (4480 < s.size) || (decide (4096 < n.size) || decide (4096 < o.size)))) := rfl
  generalize decide (4480 < s.size) = b1 at *
  generalize decide (4096 < n.size) = b2 at *
  generalize decide (4096 < o.size) = b3 at *
  cases b1
  · cases b2
    · go_enter Tryd.func8, Tryd.ntmps8
      go_wp2
      go_ret
      exact ⟨by rw [hV.out]; rfl, rfl⟩
    · go_enter Tryd.func8, Tryd.ntmps8
      go_wp2
      go_ret
      exact ⟨by rw [hV.out]; rfl, rfl⟩
  · go_enter Tryd.func8, Tryd.ntmps8
    go_wp2
    go_ret
    exact ⟨by rw [hV.out]; rfl, rfl⟩
theorem neqE (e : Ent) (w : World) : (binOp .neq 36 (.agg #[.int .i64 e.slot, .int .u64 e.path, .string e.name]) (.agg #[.int .i64 e.slot, .int .u64 e.path, .string e.name])).run Tryd.prog w = .ok (.bool false) w := by
  have ht : Tryd.prog.underlying 36 = some (.struct (Tryd.prog.fieldsOf 36)) := by kernel_rfl
  have hp : Tryd.prog.stoodInHeld 36 = false := by kernel_rfl
  rw [run_neq_struct]
  have : (Op.equalIn 10000 36 (.agg #[.int .i64 e.slot, .int .u64 e.path, .string e.name]) (.agg #[.int .i64 e.slot, .int .u64 e.path, .string e.name])).run Tryd.prog w = .ok true w := by
    rw [show (10000 : Nat) = 9999 + 1 from rfl, run_equalIn_agg w 9999 _ _ _ ht hp]
    simp [go_sem, Op.eqFields]
  rw [this]
  rfl
set_option maxHeartbeats 1000000 in
set_option maxRecDepth 100000 in
theorem same_any (v1 v2 : Value) (l : List Ent) (w : World) (h1 : EntsAt w (fun _ => True) v1 l) (h2 : EntsAt w (fun _ => True) v2 l) (hlen : l.length ≤ 140737488355328) :
    Calls Tryd.prog 21 #[v1, v2] w fun e w' => e = .returned (.bool true) ∧ Mod (fun _ => False) w w' := by
  obtain ⟨a1, cap1, rfl, hcap1, hx1⟩ := h1.form
  obtain ⟨a2, cap2, rfl, hcap2, hx2⟩ := h2.form
  clear h1 h2
  have t0 : ((l.length : Int) != (l.length : Int)) = false := by simp
  go_enter Tryd.func21, Tryd.ntmps21
  go_wp2
  go_loopw [4, 5] (fun r i wr => ∃ (k : Nat), k ≤ l.length ∧ r = .bool false ∧ i = .int .i64 k ∧ Hid (Mod (fun _ => False) w wr)) (fun _ i _ => l.length - (intOf i).toNat)
  case atStart => exact ⟨0, by omega, rfl, rfl, Mod.refl _ _⟩
  case round =>
    obtain ⟨k, hk, rfl, rfl, HM⟩ := hrel
    by_cases hlt : k < l.length
    · obtain ⟨g1, o1, rfl, _, hg1, hc1⟩ := hx1 k l[k] (List.getElem?_eq_getElem hlt)
      obtain ⟨g2, o2, rfl, _, hg2, hc2⟩ := hx2 k l[k] (List.getElem?_eq_getElem hlt)
      generalize l[k] = s at *
      have t1 : decide ((k : Int) < (l.length : Int)) = true := by simp; omega
      have c0 := keepR HM.out (hc1 0 (.int .i64 s.slot) rfl)
      have c1 := keepR HM.out (hc1 1 (.int .u64 s.path) rfl)
      have c2 := keepR HM.out (hc1 2 (.string s.name) rfl)
      have d0 := keepR HM.out (hc2 0 (.int .i64 s.slot) rfl)
      have d1 := keepR HM.out (hc2 1 (.int .u64 s.path) rfl)
      have d2 := keepR HM.out (hc2 2 (.string s.name) rfl)
      rw [Nat.add_zero] at c0 d0
      have hne := neqE s
      have i1 : (0 : Int) ≤ (k : Int) := by omega
      have i2 : (k : Int) < (l.length : Int) := by omega
      have i3 : (l.length : Int) ≤ (cap1 : Int) := by omega
      have i4 : (l.length : Int) ≤ (cap2 : Int) := by omega
      clear hc1 hc2 hx1 hx2
      go_wp2
      go_quiet (fail)
      go_wp2
      go_roundw
      case rel => exact ⟨k + 1, hlt, rfl, by go_num, Lib.hid (by first | exact HM.out | exact HM.out.drewN _ | exact HM.out.drew)⟩
      case measure => simp [intOf]; omega
    · obtain rfl : k = l.length := by omega
      have t1 : decide ((l.length : Int) < (l.length : Int)) = false := by simp
      clear hx1 hx2
      go_wp2
      go_ret
      exact ⟨rfl, HM.out⟩
set_option maxHeartbeats 1000000 in
set_option maxRecDepth 100000 in
theorem works_any (w : World) (hT : Tabs w) : Calls Tryd.prog 10 #[] w fun e w' => e = .returned (.bool true) ∧ Mod (fun _ => False) w w' := by
  obtain ⟨a, b, c, e1, e2, e3, z3, f3, c3, z1, z2⟩ := works_facts
  have h1 := fun U => put_any ⟨#[]⟩ ⟨#[97]⟩ 5 U (by decide) (by decide) (by decide)
  have h2 := fun U => put_any a ⟨#[98]⟩ 6 U (by omega) (by decide) (by decide)
  have h3 := fun U => drop_any b ⟨#[97]⟩ U (by omega) (by decide)
  have h4 := fun U => find_any c ⟨#[98]⟩ U (by omega) (by decide)
  have h5 := fun U => count_any c U (by omega)
  have h6 := fun U => name_any ⟨#[46, 46]⟩ U (by decide)
  rw [e1] at h1
  rw [e2] at h2
  rw [e3] at h3
  rw [f3] at h4
  rw [c3] at h5
  rw [name_dots] at h6
  unfold putV at h1 h2 h3
  simp only at h1 h2 h3 h4
  have z3i : (c.size : Int) = 128 := by omega
  clear e1 e2 e3 f3 c3 z1 z2 z3
  go_enter Tryd.func10, Tryd.ntmps10
  go_wp2_with fail
  refine (h1 _ hT).mono ?_
  rintro e w1 ⟨rfl, m1⟩
  have hT1 := hT.mod m1
  go_wp2_with fail
  refine (h2 _ hT1).mono ?_
  rintro e w2 ⟨rfl, m2⟩
  have hT2 := hT1.mod m2
  go_wp2_with fail
  refine (h3 _ hT2).mono ?_
  rintro e w3 ⟨rfl, m3⟩
  have hT3 := hT2.mod m3
  go_wp2_with fail
  refine (h4 _ hT3).mono ?_
  rintro e w4 ⟨rfl, m4⟩
  have hT4 := hT3.mod m4
  go_wp2_with fail
  refine (h5 _ hT4).mono ?_
  rintro e w5 ⟨rfl, m5⟩
  have hT5 := hT4.mod m5
  go_wp2_with fail
  refine (h6 _ hT5).mono ?_
  rintro e w6 ⟨rfl, m6⟩
  go_wp2
  go_ret
  exact ⟨rfl, ((((m1.trans m2).trans m3).trans m4).trans m5).trans m6⟩
end Go.Proofs.YtfkmfllhlhefdaaDoor
