/- The document's all: a text of one letter. -/
import Derived.Test.YtklpopmjpgdjnaaGreatDoorQPShape
import Derived.Test.YtklpopmjpgdjnaaGreatDoorQGd
set_option linter.unusedVariables false
set_option linter.unusedSimpArgs false
namespace Go.Proofs.YtklpopmjpgdjnaaGreatDoor
open Go.RowKit

theorem rep_snoc (c : UInt8) (k : Nat) : bc (List.replicate (k + 1) c) = bc (List.replicate k c) ++ [.int .u8 (c.toNat : Int)] := by
  rw [List.replicate_succ', bc_snoc]
set_option maxRecDepth 20000 in
set_option maxHeartbeats 1000000 in
theorem all24_any (s : ByteArray) (c : UInt8) (y : Nat) (hy : c.toNat = y) (w : World) (hs : s.size ≤ 262144) :
    Calls Tryz.prog 48 #[.string s, .int .u8 y] w fun e w' => e = .returned (.string (rep c s.size)) ∧ Mod (fun _ => False) w w' := by
  obtain ⟨n, hn⟩ : ∃ n, s.size = n := ⟨_, rfl⟩
  go_enter Tryz.func48, Tryz.ntmps48
  go_wp2
  go_loopw [5, 6] (fun v i wr => ∃ k : Nat, k ≤ n ∧ i = .int .i64 k ∧ OwnA wr w.heap.size 1 v k (bc (List.replicate k c)) ∧ Hid (Mod (fun _ => False) w wr)) (fun _ i _ => n - (intOf i).toNat)
  case atStart => exact ⟨0, Nat.zero_le _, rfl, OwnA.nil _ _ _, Mod.refl _ _⟩
  case round =>
    obtain ⟨k, hk, rfl, hown, HM⟩ := hrel
    by_cases hlt : k < n
    · have t1 : decide ((k : Int) < (n : Int)) = true := by simp; omega
      have HBS := Lib.hid (rep_snoc c k)
      have HY := Lib.hid hy
      have hsz := HM.out.size
      have A1 : Hid (OwnA (wr.alloc (.cells #[.int .u8 y] 5)) w.heap.size 1 u5 k (bc (List.replicate k c))) := hown.mod ((Mod.refl (fun _ => False) wr).alloc _) (fun _ _ x => x)
      have A2 : Hid (Src Tryz.prog 1 68 (.slice (some ⟨wr.heap.size, 0, none⟩) 1 1) 1 [.int .u8 y] (wr.alloc (.cells #[.int .u8 y] 5))) :=
        Src.ofSlice _ Tryz.underlying68 _ _ _ _ rfl (fun j u hj => by
          cases j with
          | zero => cases hj; exact (cell_of (new_at wr _) 0).trans rfl
          | succ j => cases hj) (by intro u hu; simp only [List.mem_cons, List.not_mem_nil, or_false] at hu; subst hu; rfl)
      have A3 : Hid ((k + 1) * 1 ≤ 140737488355328) := by show _ ≤ _; omega
      have A4 : Hid (k + 1 ≤ 9223372036854775807) := by show _ ≤ _; omega
      have A5 : Hid (w.heap.size ≤ (wr.alloc (.cells #[.int .u8 y] 5)).heap.size) := by show _ ≤ _; rw [World.size_alloc]; omega
      clear hown hy
      go_wp2_with (refine wpl_append rfl (.tmp 13) (.tmp 15) _ _ rfl w.heap.size 5 (.int .u8 0) 1 1 Tryz.underlying68 info_u8n rfl (by decide) u5 _ _ rfl A1.out _ _ _ rfl A2.out A3.out A4.out A5.out ?_; intro v' w3 hown' hgrow)
      go_roundw
      case rel =>
        refine ⟨k + 1, hlt, by go_num, ?_, ?_⟩
        · rw [HBS.out, HY.out]; exact hown'
        · exact A1.out.thenMod (HM.out.alloc _) hgrow (by omega)
      case measure => simp [intOf]; omega
    · obtain rfl : k = n := by omega
      have t1 : decide ((k : Int) < (k : Int)) = false := by simp
      rcases hown.2 with ⟨hv, h0⟩ | ⟨g, cap, hv, _, hg, _, _, _, hc⟩
      · subst hv
        subst h0
        have hh : rep c s.size = ByteArray.empty := by rw [hn]; rfl
        have HH := Lib.hid hh
        have hcv := run_convert_bytes_nil (P := Tryz.prog) (w := wr) 68 5 Tryz.underlying68 Tryz.underlying5 0 0 9 Tryz.underlying9
        clear hown hh
        go_wp2
        go_ret
        exact ⟨by rw [HH.out]; rfl, HM.out⟩
      · subst hv
        have hcv := conv_string (P := Tryz.prog) wr 68 9 5 g 0 cap (List.replicate k c) k (by simp) Tryz.underlying68 Tryz.underlying5 Tryz.underlying9
          (fun j hj => by rw [Nat.zero_add]; exact hc j _ (by simp [bc]; simp at hj; simp [hj]))
        clear hown hc
        go_wp2
        go_ret
        exact ⟨by rw [hn]; rfl, HM.out⟩
end Go.Proofs.YtklpopmjpgdjnaaGreatDoor
