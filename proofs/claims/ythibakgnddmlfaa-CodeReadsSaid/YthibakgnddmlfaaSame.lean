/- Two lists of texts compared. -/
import Derived.Test.YthibakgnddmlfaaAlive
namespace Go.Proofs.Ythibakgnddmlfaa
open Go.RowKit

set_option maxHeartbeats 1000000 in
/-- two lists of texts are one -/
theorem same_any (v1 v2 : Value) (l : List ByteArray) (w : World) (h1 : SlAt w (fun _ => True) v1 (l.map Value.string)) (h2 : SlAt w (fun _ => True) v2 (l.map Value.string)) (hm : l.length ≤ maxLen) :
    Calls Try.prog 37 #[v1, v2] w fun e w' => e = .returned (.bool true) ∧ ∃ n, w' = w.drewN n := by
  unfold maxLen at hm
  obtain ⟨a1, c1, rfl, hc1, f1⟩ := h1.form
  obtain ⟨a2, c2, rfl, hc2, f2⟩ := h2.form
  rw [List.length_map] at *
  have F1 := Lib.hid f1; clear f1
  have F2 := Lib.hid f2; clear f2
  clear h1 h2
  go_enter Try.func37, Try.ntmps37
  go_wp2
  go_loopw [5] (fun i wr => ∃ k : Nat, k ≤ l.length ∧ i = .int .i64 k ∧ ∃ n, wr = w.drewN n) (fun i _ => l.length - (intOf i).toNat)
  case atStart => exact ⟨0, Nat.zero_le _, rfl, 0, rfl⟩
  case round =>
    obtain ⟨k, hk, rfl, n, rfl⟩ := hrel
    by_cases hlt : k < l.length
    · obtain ⟨g1, o1, ha1, _, _, d1⟩ := F1.out k _ (strs_get hlt)
      obtain ⟨g2, o2, ha2, _, _, d2⟩ := F2.out k _ (strs_get hlt)
      clear F1 F2
      generalize l[k] = t at *
      subst ha1 ha2
      have e3 : (t.toList == t.toList) = true := beq_self_eq_true _
      go_wp2
      go_quiet (fail)
      go_wp2
      go_roundw
      case rel => exact ⟨k + 1, hlt, by go_num, _, rfl⟩
      case measure => simp [intOf]; omega
    · go_wp2
      go_ret
      exact ⟨rfl, _, rfl⟩
end Go.Proofs.Ythibakgnddmlfaa
