/- Package stat's Qid. -/
import Derived.Test.YtjhhknmdnkkknaaPStat
import Derived.Test.YtjhhknmdnkkknaaPut
import Derived.Test.YtjhhknmdnkkknaaRegionHold
namespace Go.Proofs.Ytjhhknmdnkkknaa
open Go.RowKit

set_option maxRecDepth 20000 in
set_option maxHeartbeats 2000000 in
theorem qid_any (t v p : Nat) (w : World) (ht : t < 256) (hv : v < 4294967296) (hp : p < 18446744073709551616) :
    Calls Try.prog 12 #[.agg #[.int .u8 t, .int .u32 v, .int .u64 p]] w fun e w' => e = .returned (.string (bs (qidL t v p))) ∧ Mod (fun _ => False) w w' := by
  have hsz : ∀ n x, (bs (leBytes n x)).size = n := fun n x => by rw [bs_size, leBytes_length]
  have hap : ∀ a b : ByteArray, (a ++ b).size = a.size + b.size := fun a b => ByteArray.size_append
  obtain ⟨W, hW⟩ : ∃ W, w.alloc (.cells #[.int .u8 t, .int .u32 v, .int .u64 p] 26) = W := ⟨_, rfl⟩
  have hb : W.heap[w.heap.size]? = some (.cells #[.int .u8 t, .int .u32 v, .int .u64 p] 26 (0, 0)) := by subst hW; exact new_at _ _
  have hm : Mod (fun _ => False) w W := by subst hW; exact (Mod.refl _ w).alloc _
  have hS0 : W.drew.cell? ⟨w.heap.size, 0, none⟩ = some (.int .u8 t) ∧ W.drew.cell? ⟨w.heap.size, 1, none⟩ = some (.int .u32 v) ∧ W.drew.cell? ⟨w.heap.size, 2, none⟩ = some (.int .u64 p) := ⟨(cell_of (w := W.drew) hb 0).trans rfl, (cell_of (w := W.drew) hb 1).trans rfl, (cell_of (w := W.drew) hb 2).trans rfl⟩
  have hSk : ∀ (U V : World), (U.cell? ⟨w.heap.size, 0, none⟩ = some (.int .u8 t) ∧ U.cell? ⟨w.heap.size, 1, none⟩ = some (.int .u32 v) ∧ U.cell? ⟨w.heap.size, 2, none⟩ = some (.int .u64 p)) → Mod (fun _ => False) U V → (V.cell? ⟨w.heap.size, 0, none⟩ = some (.int .u8 t) ∧ V.cell? ⟨w.heap.size, 1, none⟩ = some (.int .u32 v) ∧ V.cell? ⟨w.heap.size, 2, none⟩ = some (.int .u64 p)) := by
    rintro U V ⟨h1, h2, h3⟩ hm
    have hb := hm.block _ (World.block_lt_of_cell? _ _ h1) (fun x => x)
    exact ⟨(World.cell?_of_block (a := ⟨w.heap.size, 0, none⟩) hb).trans h1, (World.cell?_of_block (a := ⟨w.heap.size, 1, none⟩) hb).trans h2, (World.cell?_of_block (a := ⟨w.heap.size, 2, none⟩) hb).trans h3⟩
  have Mc : Hid (Mod (fun _ => False) w W.drew) := hm.drew
  go_enter Try.func12, Try.ntmps12
  go_wp2
  refine wp_onlyN ?_
  go_region_held_law (fun w' => w'.cell? ⟨w.heap.size, 0, none⟩ = some (.int .u8 t) ∧ w'.cell? ⟨w.heap.size, 1, none⟩ = some (.int .u32 v) ∧ w'.cell? ⟨w.heap.size, 2, none⟩ = some (.int .u64 p)) (first | assumption | exact hSk _ _ (by assumption) m4) (first
    | (go_at_call 32; refine (wU8_x t _ (by omega)).mono ?_; rintro e w4 ⟨rfl, m4⟩; have Mc := Lib.hid (Mc.out.trans m4))
    | (go_at_call 24; refine (wU32_x v _ (by omega)).mono ?_; rintro e w4 ⟨rfl, m4⟩; have Mc := Lib.hid (Mc.out.trans m4))
    | (go_at_call 25; refine (wU64_x p _ (by omega)).mono ?_; rintro e w4 ⟨rfl, m4⟩; have Mc := Lib.hid (Mc.out.trans m4)))
  all_goals refine onlyN_out ?_
  all_goals go_wp2
  all_goals go_ret
  all_goals exact ⟨by unfold qidL; rw [bs_cat, bs_cat]; rfl, Mc.out⟩
end Go.Proofs.Ytjhhknmdnkkknaa
