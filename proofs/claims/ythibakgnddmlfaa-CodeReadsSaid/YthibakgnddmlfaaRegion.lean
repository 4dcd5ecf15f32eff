/- A region that draws its order: behind its one writing call all that is left only reads: one walk in the order of the text. -/
import Derived.Test.YthibakgnddmlfaaBase
namespace Go.Proofs.Ythibakgnddmlfaa
open Go.RowKit

theorem wpAny_tail {P : Program} {l0 : List Oper} {Q' : Exit → Act → World → Prop} {fuel : Nat} {listed : Array Bool} {a : Act} {w : World} (k : Nat) (l : List Oper)
    (hl : l0.drop k = l) (hf : l.length = fuel) (hs : Region.noSelect l0.toArray = true) (hB : Region.lexFrom .any l0.toArray l.length k listed = true)
    (h : wpQuiet P l0.toArray (fun w' => ∃ n, w' = w.drewN n) (fun a' => ∀ w', (∃ n, w' = w.drewN n) → Q' .normal a' w') l a) : wpAny P .any l0.toArray Q' fuel listed a w := by
  subst hf
  refine wpAny_of_quiet (C := fun w' => ∃ n, w' = w.drewN n) (Q := fun a' => ∀ w', (∃ n, w' = w.drewN n) → Q' .normal a' w') (fun _ w' hw' h => h w' hw') _ _ _ _ ⟨0, rfl⟩ ?_
  refine wpAnyQ_lex hs l k listed a (fun j => ?_) hB h
  rw [← hl, List.getElem?_drop, List.getElem?_toArray]
theorem quiet_same {P : Program} {f : FuncId} {args : Array Value} {w : World} {n : Nat} {v : Value}
    (h : Calls P f args (w.drewN n) fun e w' => e = .returned v ∧ w.drewN n = w') : Calls P f args (w.drewN n) fun e w'' => e = .returned v ∧ ∃ m, w'' = w.drewN m :=
  Calls.quiet_of_same (h.mono fun _ _ ⟨he, hw⟩ => ⟨he, hw.symm⟩)
end Go.Proofs.Ythibakgnddmlfaa
