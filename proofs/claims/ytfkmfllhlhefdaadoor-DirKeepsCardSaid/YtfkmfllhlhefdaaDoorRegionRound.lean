/- In a round of a range over a function: a region that draws its order, by the plain words. -/
import Derived.Test.YtfkmfllhlhefdaaDoorRegionHold
import Derived.OrdersIn
namespace Go.Proofs.YtfkmfllhlhefdaaDoor
open Go.RowKit

theorem letsOut_onlyN {Q : Exit → Act → World → Prop} (h : LetsOut (onlyN Q)) : False := by
  obtain ⟨a, w, hq⟩ := h
  exact hq
section
variable {n l : Nat} {P : Program} {ops : Array Oper} {md : Region.Mode} {Q : Exit → Act → World → Prop}
theorem upon_round {o : Oper} {a : Act} {K K' : Act → World → Prop} (hK : ∀ a w, K a w → K' a w) {r : Result Next} (h : o.upon P a K (onlyN Q) r) : o.uponIn (Fence.wide.inRound l) n P a K' Q r := by
  cases r with
  | ok nx w' =>
    cases nx
    case value v => exact hK _ _ h
    case skip => exact hK _ _ h
    case defer d => exact hK _ _ h
    case enter f args =>
      refine ⟨fun hh => (by cases hh), ?_⟩
      have : CallsIn Fence.wide (n - 1) P f args w' fun e w'' => match e with
        | .returned v => K' (a.put o.dst v) w''
        | .panicked chain => Q (.panic chain) a w''
        | .outgrown => LetsOut Q := by
        refine callsIn_wide.2 ?_
        refine Calls.mono h ?_
        intro e w'' he
        cases e with
        | returned v => exact hK _ _ he
        | panicked c => exact he.elim
        | outgrown => exact (letsOut_onlyN he).elim
      refine CallsIn.mono (show CallsIn (Fence.wide.inRound l) (n - 1) P f args w' _ from this) ?_
      intro e w'' he
      cases e <;> exact he
    case row row args =>
      refine ⟨fun hh => (by cases hh), ?_⟩
      have h : Rows P row args w' fun v w'' => K (a.put o.dst v) w'' := h
      intro c cs _
      obtain ⟨v, w2, hr, hs⟩ := h c cs
      exact ⟨v, w2, hK _ _ hr, stepsIn_wide.2 hs⟩
    all_goals exact (show False from h).elim
  | halt x w' =>
    cases x <;> exact (show False from h).elim
theorem wpOp_round {i : Nat} (hd : noDefer ops.toList = true) {K K' : Act → World → Prop} {a : Act} {w : World} (hK : ∀ a w, K a w → K' a w) (h : wpOp P ops (onlyN Q) i K a w) : wpOpIn (Fence.wide.inRound l) n P ops Q i K' a w := by
  unfold wpOp at h
  unfold wpOpIn
  cases hi : ops[i]? with
  | none => rw [hi] at h; exact hK _ _ h
  | some o =>
    rw [hi] at h
    have hn := noDefer_spec hd hi
    simp only at h ⊢
    split
    · rename_i hw
      rw [if_pos hw] at h
      rcases h with h | ⟨_, h⟩
      · refine ⟨fun _ _ => trivial, ?_⟩
        rw [Oper.semAt_eq _ _ _ hn]
        exact upon_round hK h
      · exact (letsOut_onlyN h).elim
    · rename_i hw
      rw [if_neg hw] at h
      exact ⟨fun _ _ => trivial, hK _ _ h⟩
theorem wpAny_round (hd : noDefer ops.toList = true) : ∀ (fuel : Nat) (listed : Array Bool) (a : Act) (w : World), wpAny P md ops (onlyN Q) fuel listed a w → wpAnyIn (Fence.wide.inRound l) n P md ops Q fuel listed a w
  | 0, _, _, _, h => h
  | fuel + 1, _, _, _, h => ⟨h.1, fun i hi => wpOp_round hd (fun a w => wpAny_round hd fuel _ a w) (h.2 i hi)⟩
theorem wpIn_region_held_round {id : Nat} {a : Act} {w : World} {S : World → Prop} (hm : P.follows .mixedOrders = true) (hd : noDefer ops.toList = true) (hS : S w.drew)
    (h : S w.drew → wpAnyH P .any ops (onlyN Q) S ops.size (Array.replicate ops.size false) a w.drew) : (Code.region id ops true).wpIn (Fence.wide.inRound l) n P Q a w :=
  wpIn_region_any hm (wpAny_round hd _ _ _ _ (wpAny_of_held _ _ _ _ (h hS)))
end
end Go.Proofs.YtfkmfllhlhefdaaDoor
