/- Slices of entries. -/
import Derived.Test.YtfkmfllhlhefdaaDoorRecs
import Derived.Test.YtfkmfllhlhefdaaDoorPDirLoad
namespace Go.Proofs.YtfkmfllhlhefdaaDoor
open Go.RowKit

theorem info_entry : (Tryd.prog.info? 36).map (fun i => (i.zero, i.size, i.bytes)) = some (some (.agg #[.int .i64 0, .int .u64 0, .string { data := #[] }]), 3, 32) := by kernel_rfl
theorem ent_len (e : Ent) : e.cells.length = 3 := rfl
theorem ent_one (e : Ent) : ∀ u ∈ e.cells, u.oneCell' = true := by
  intro u hu
  simp only [Ent.cells, List.mem_cons, List.not_mem_nil, or_false] at hu
  rcases hu with rfl | rfl | rfl <;> rfl
abbrev EntsAt (w : World) (P : Nat → Prop) (v : Value) (l : List Ent) : Prop := RecsAt Ent.cells 3 w P v l
abbrev flatE (l : List Ent) : List Value := flatR Ent.cells l
theorem flatE_length (l : List Ent) : (flatE l).length = l.length * 3 := flatR_length ent_len l
end Go.Proofs.YtfkmfllhlhefdaaDoor
