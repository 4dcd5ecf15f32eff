/- The document's numbers and texts of chapter 23. -/
import Derived.Test.YtjhhknmdnkkknaaBase
import Derived.Test.YtjhhknmdnkkknaaPCode
import Derived.Test.YtjhhknmdnkkknaaOwn
namespace Go.Proofs.Ytjhhknmdnkkknaa
open Go.RowKit

theorem leBytes_snoc : ∀ (k x : Nat), leBytes (k + 1) x = leBytes k x ++ [UInt8.ofNat (x / 2 ^ (8 * k))]
  | 0, x => by simp [leBytes]
  | k + 1, x => by
    show UInt8.ofNat x :: leBytes (k + 1) (x / 256) = UInt8.ofNat x :: leBytes k (x / 256) ++ _
    rw [leBytes_snoc k (x / 256), Nat.div_div_eq_div_mul, show 256 * 2 ^ (8 * k) = 2 ^ (8 * (k + 1)) from by rw [show 8 * (k + 1) = 8 + 8 * k from by omega, Nat.pow_add]]
    rfl
theorem bc_snoc (l : List UInt8) (b : UInt8) : bc (l ++ [b]) = bc l ++ [.int .u8 (b.toNat : Int)] := by simp [bc]
theorem info_u8n : (Try.prog.info? 5).map (fun i => (i.zero, i.size, i.bytes)) = some (some (.int .u8 0), 1, 1) := by kernel_rfl

set_option maxRecDepth 20000 in
set_option maxHeartbeats 1000000 in
theorem n23_any (x n : Nat) (m : Int) (hm0 : m = n) (w : World) (_hx : x < 18446744073709551616) (hn1 : 1 ≤ n) (hn : n ≤ 8) :
    Calls Try.prog 30 #[.int .u64 x, .int .i64 m] w fun e w' => e = .returned (.string (bs (leBytes n x))) ∧ Mod (fun _ => False) w w' := by
  subst hm0
  go_enter Try.func30, Try.ntmps30
  go_wp2
  go_loopw [5, 6] (fun v i wr => ∃ k : Nat, k ≤ n ∧ i = .int .i64 k ∧ OwnA wr w.heap.size 1 v k (bc (leBytes k x)) ∧ Hid (Mod (fun _ => False) w wr)) (fun _ i _ => n - (intOf i).toNat)
  case atStart => exact ⟨0, Nat.zero_le _, rfl, OwnA.nil _ _ _, Mod.refl _ _⟩
  case round =>
    obtain ⟨k, hk, rfl, hown, HM⟩ := hrel
    by_cases hlt : k < n
    · have t1 : decide (k < n) = true := by simp [hlt]
      obtain ⟨y, hy⟩ : ∃ y, x / 2 ^ (8 * k) % 256 = y := ⟨_, rfl⟩
      have hyI : (x : Int) / 2 ^ (8 * k) % 256 = y := by rw [← hy]; simp
      have hbs : leBytes (k + 1) x = leBytes k x ++ [UInt8.ofNat y] := by
        rw [leBytes_snoc, ← hy]
        congr 2
        apply UInt8.toNat_inj.1
        simp
      have hby : ((UInt8.ofNat y).toNat : Int) = y := by
        have : y < 256 := by rw [← hy]; exact Nat.mod_lt _ (by decide)
        simp
        omega
      have HBS := Lib.hid (And.intro hbs hby)
      clear hbs hby
      have hsz := HM.out.size
      have A1 : Hid (OwnA (wr.alloc (.cells #[.int .u8 y] 5)) w.heap.size 1 u5 k (bc (leBytes k x))) := hown.mod ((Mod.refl (fun _ => False) wr).alloc _) (fun _ _ x => x)
      have A2 : Hid (Src Try.prog 1 51 (.slice (some ⟨wr.heap.size, 0, none⟩) 1 1) 1 [.int .u8 y] (wr.alloc (.cells #[.int .u8 y] 5))) :=
        Src.ofSlice _ Try.underlying51 _ _ _ _ rfl (fun j u hj => by
          cases j with
          | zero => cases hj; exact (cell_of (new_at wr _) 0).trans rfl
          | succ j => cases hj) (by intro u hu; simp only [List.mem_cons, List.not_mem_nil, or_false] at hu; subst hu; rfl)
      have A3 : Hid ((k + 1) * 1 ≤ 140737488355328) := by show _ ≤ _; omega
      have A4 : Hid (k + 1 ≤ 9223372036854775807) := by show _ ≤ _; omega
      have A5 : Hid (w.heap.size ≤ (wr.alloc (.cells #[.int .u8 y] 5)).heap.size) := by show _ ≤ _; rw [World.size_alloc]; omega
      clear hown
      go_wp2_with (refine wpl_append rfl (.tmp 12) (.tmp 19) _ _ rfl w.heap.size 5 (.int .u8 0) 1 1 Try.underlying51 info_u8n rfl (by decide) u5 _ _ rfl A1.out _ _ _ rfl A2.out A3.out A4.out A5.out ?_; intro v' w3 hown' hgrow)
      go_roundw
      case rel =>
        refine ⟨k + 1, hlt, by go_num, ?_, ?_⟩
        · rw [HBS.out.1, bc_snoc, HBS.out.2]; exact hown'
        · exact A1.out.thenMod (HM.out.alloc _) hgrow (by omega)
      case measure => simp [intOf]; omega
    · obtain rfl : k = n := by omega
      have t1 : decide (k < k) = false := by simp
      rcases hown.2 with ⟨_, h0⟩ | ⟨g, cap, rfl, _, hg, _, _, _, hc⟩
      · omega
      · have hcv := conv_string (P := Try.prog) wr 51 9 5 g 0 cap (leBytes k x) k (leBytes_length k x).symm Try.underlying51 Try.underlying5 Try.underlying9
          (fun j hj => by rw [Nat.zero_add]; exact hc j _ (by simp [bc, hj]))
        clear hown hc
        go_wp2
        go_ret
        exact ⟨rfl, HM.out⟩

theorem n23m_any (x : Nat) (m : Int) (w : World) (hx : x < 18446744073709551616) (h1 : 1 ≤ m) (h8 : m ≤ 8) :
    Calls Try.prog 30 #[.int .u64 x, .int .i64 m] w fun e w' => e = .returned (.string (bs (leBytes m.toNat x))) ∧ Mod (fun _ => False) w w' :=
  n23_any x m.toNat m (by omega) w hx (by omega) (by omega)
theorem t23_any (s : ByteArray) (w : World) (hs : s.size ≤ 1099511627776) :
    Calls Try.prog 31 #[.string s] w fun e w' => e = .returned (.string (bs (leBytes 2 s.size ++ s.data.toList))) ∧ Mod (fun _ => False) w w' := by
  go_enter Try.func31, Try.ntmps31
  go_wp2_with fail
  refine (n23_any s.size 2 2 rfl _ (by omega) (by decide) (by decide)).mono ?_
  rintro e w1 ⟨rfl, m1⟩
  have hb : (bs (leBytes 2 s.size)).size ≤ 2 := by rw [bs_size, leBytes_length]; exact Nat.le_refl _
  have hcat : bs (leBytes 2 s.size ++ s.data.toList) = bs (leBytes 2 s.size) ++ s := by rw [bs_cat, bs_of]
  have HCAT := Lib.hid hcat
  clear hcat
  generalize bs (leBytes 2 s.size) = t at *
  go_wp2
  go_ret
  exact ⟨by rw [HCAT.out]; rfl, m1⟩
end Go.Proofs.Ytjhhknmdnkkknaa
