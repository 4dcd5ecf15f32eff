/- Rows of pieces, read; same. -/
import Derived.Test.YtfmlgleeojblkaaExtCollect
import Derived.Test.YtfmlgleeojblkaaOwn
namespace Go.Proofs.Ytfmlgleeojblkaa
open Go.RowKit

/-- v reads the pieces l -/
def PRow (W : World) (v : Value) (l : List Pc) : Prop := ∃ a cap, v = .slice a l.length cap ∧ ∀ i (h : i < l.length), ∃ g, a = some ⟨g, 0, none⟩ ∧ g < W.heap.size ∧
  W.cell? ⟨g, i * 4, none⟩ = some (.int .i64 l[i].b) ∧ W.cell? ⟨g, i * 4 + 1, none⟩ = some (.int .i64 l[i].f) ∧ W.cell? ⟨g, i * 4 + 2, none⟩ = some (.int .i64 l[i].t) ∧ W.cell? ⟨g, i * 4 + 3, none⟩ = some (.int .i64 l[i].a)
theorem PRow.mod {W W' : World} {v : Value} {l : List Pc} (h : PRow W v l) (hm : Mod (fun _ => False) W W') : PRow W' v l := by
  obtain ⟨a, cap, hv, hc⟩ := h
  refine ⟨a, cap, hv, fun i hi => ?_⟩
  obtain ⟨g, ha, hg, h0, h1, h2, h3⟩ := hc i hi
  have hb := hm.block g hg (fun x => x)
  exact ⟨g, ha, Nat.lt_of_lt_of_le hg hm.size, (World.cell?_of_block (a := ⟨g, i * 4, none⟩) hb).trans h0, (World.cell?_of_block (a := ⟨g, i * 4 + 1, none⟩) hb).trans h1, (World.cell?_of_block (a := ⟨g, i * 4 + 2, none⟩) hb).trans h2, (World.cell?_of_block (a := ⟨g, i * 4 + 3, none⟩) hb).trans h3⟩
theorem flat_get : ∀ (l : List Pc) (i j : Nat) (h : i < l.length), j < 4 → (flat l)[i * 4 + j]? = (l[i].cells)[j]?
  | p :: l, 0, j, _, hj => by
    simp only [flat, List.flatMap_cons, Nat.zero_mul, Nat.zero_add, List.getElem_cons_zero]
    rw [List.getElem?_append_left (by simp [Pc.cells]; omega)]
  | p :: l, i + 1, j, h, hj => by
    have ih := flat_get l i j (by simpa using h) hj
    simp only [flat, List.flatMap_cons, List.getElem_cons_succ] at ih ⊢
    rw [List.getElem?_append_right (by simp [Pc.cells]; omega), show (i + 1) * 4 + j - p.cells.length = i * 4 + j from by simp [Pc.cells]; omega]
    exact ih
theorem PRow.of_ownA {W : World} {base : Nat} {v : Value} {l : List Pc} (h0 : OwnA W base 4 v l.length (flat l)) : PRow W v l := by
  rcases h0.2 with ⟨rfl, hn⟩ | ⟨g, cap, rfl, _, hg, _, _, _, hc⟩
  · exact ⟨none, 0, by rw [hn], fun i hi => by omega⟩
  · refine ⟨_, cap, rfl, fun i hi => ⟨g, rfl, hg, ?_, ?_, ?_, ?_⟩⟩
    · exact hc (i * 4) _ (by rw [show i * 4 = i * 4 + 0 from rfl, flat_get l i 0 hi (by decide)]; rfl)
    · exact hc (i * 4 + 1) _ (by rw [flat_get l i 1 hi (by decide)]; rfl)
    · exact hc (i * 4 + 2) _ (by rw [flat_get l i 2 hi (by decide)]; rfl)
    · exact hc (i * 4 + 3) _ (by rw [flat_get l i 3 hi (by decide)]; rfl)
theorem PRow.of_owns {W : World} {base : Nat} {e : TypeId} {v : Value} {l : List Pc} (h : W.ownsRow base e 4 v l.length (flat l)) : PRow W v l := PRow.of_ownA (OwnA.of_owns h)

set_option maxHeartbeats 1000000 in
theorem same_any (v u : Value) (l : List Pc) (hl : l.length ≤ 17) (w : World) (h1 : PRow w v l) (h2 : PRow w u l) :
    Calls Try.prog 9 #[v, u] w fun e w' => e = .returned (.bool true) ∧ Mod (fun _ => False) w w' := by
  obtain ⟨a, cap, rfl, hc⟩ := h1
  obtain ⟨b, cap2, rfl, hd⟩ := h2
  have HC := Lib.hid hc
  have HD := Lib.hid hd
  clear hc hd
  go_enter Try.func9, Try.ntmps9
  go_wp2
  go_loopw [5] (fun i wr => ∃ k : Nat, k ≤ l.length ∧ i = .int .i64 k ∧ ∃ m, wr = w.drewN m) (fun i _ => l.length - (intOf i).toNat)
  case atStart => exact ⟨0, Nat.zero_le _, rfl, 0, rfl⟩
  case round =>
    obtain ⟨k, hk, rfl, m, rfl⟩ := hrel
    by_cases hlt : k < l.length
    · have t1 : decide (k < l.length) = true := by simp [hlt]
      obtain ⟨g, rfl, _, p0, p1, p2, p3⟩ := HC.out k hlt
      obtain ⟨g', rfl, _, q0, q1, q2, q3⟩ := HD.out k hlt
      generalize l[k] = x at *
      obtain ⟨xb, xf, xt, xa⟩ := x
      simp only at p0 p1 p2 p3 q0 q1 q2 q3
      go_wp2
      go_quiet (fail)
      go_wp2
      go_roundw
      case rel => exact ⟨k + 1, hlt, by go_num, m + nq, rfl⟩
      case measure => simp [intOf]; omega
    · have t1 : decide (k < l.length) = false := by simp; omega
      go_wp2
      go_ret
      exact ⟨rfl, (Mod.refl _ w).drewN m⟩
end Go.Proofs.Ytfmlgleeojblkaa
