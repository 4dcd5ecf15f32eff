/- A range over an iterator that writes a variable of its own between two rounds: the statement's law, for bodies that go on or return. -/
import Derived.Test.YtfkmfllhlhefdaaDoorBase
import Derived.RangeFuncBox
import Derived.Maps.OwnIn
namespace Go.Proofs.YtfkmfllhlhefdaaDoor
open Go.RowKit

/-- what abides the steps of an iterator whose variable lies in block Bx -/
structure Bears {β : Type} (Bx : Nat) (J : β → World → Prop) : Prop where
  mod : ∀ s A B, J s A → Mod (fun _ => False) A B → J s B
  set : ∀ s A v, J s A → J s (A.setCell ⟨Bx, 0, none⟩ v)
/-- the contract of such an iterator: begun in a world that meets o -/
def SeqW {α : Type} (n : Nat) (P : Program) (g : Nat) (lb : Array Value) (encs : α → Array Value) (Bx : Nat) (o : World → Prop) (S Sp : List α → Prop) : Prop :=
  ∀ (l : Nat) (J Jx : List α → World → Prop) (W : World), o W → Bears Bx J → Bears Bx Jx →
    (∀ pre x W1, J pre W1 → Sp (pre ++ [x]) → YieldAt Fence.wide (n - 1) P l (encs x) W1 fun e W' =>
      (e = .returned (.bool true) ∧ J (pre ++ [x]) W' ∧ W'.heap[Bx]? = W1.heap[Bx]? ∧ W1.heap.size ≤ W'.heap.size) ∨ (e = .returned (.bool false) ∧ Jx (pre ++ [x]) W')) →
    J [] W →
    CallsIn Fence.wide n P g (#[.func (.yield l) #[] #[]] ++ lb) W fun e W' => (∃ v, e = .returned v) ∧ ((∃ xs, S xs ∧ J xs W') ∨ (∃ pre, Sp pre ∧ Jx pre W'))
/-- the loop's two blocks, from B on -/
def LoopAt (B : Nat) (R : Loop) (W : World) : Prop := W.heap[B + 1]? = some (.loop R) ∧ W.heap[B]? = some (.deferred (some []))
theorem LoopAt.keep {B : Nat} {R : Loop} {A C : World} (h : LoopAt B R A) (hk : ∀ k, k = B ∨ k = B + 1 → C.heap[k]? = A.heap[k]?) : LoopAt B R C :=
  ⟨(hk _ (Or.inr rfl)).trans h.1, (hk _ (Or.inl rfl)).trans h.2⟩
theorem LoopAt.mod {B : Nat} {R : Loop} {A C : World} (h : LoopAt B R A) (hm : Mod (fun _ => False) A C) : LoopAt B R C :=
  h.keep fun k hk => hm.block k (by rcases hk with rfl | rfl; exact lt_of h.2; exact lt_of h.1) (fun x => x)
theorem LoopAt.turn {B : Nat} {R R' : Loop} {A : World} (h : LoopAt B R A) : LoopAt B R' (A.putObj (B + 1) (.loop R')) :=
  ⟨World.putObj_heap_same (lt_of h.1), (World.putObj_heap_other (by omega)).trans h.2⟩
/-- what a caller may say: it abides the iterator's steps and the book-keeping of the loop itself -/
structure Holds {β : Type} (Bx B : Nat) (I : β → World → Prop) : Prop where
  mod : ∀ s A C, I s A → Mod (fun _ => False) A C → I s C
  set : ∀ s A v, I s A → I s (A.setCell ⟨Bx, 0, none⟩ v)
  put : ∀ s A R R', I s A → A.heap[B + 1]? = some (.loop R) → I s (A.putObj (B + 1) (.loop R'))
/-- how the body may be left -/
def BodyPost {α : Type} (Bx B : Nat) (I Ix : List α → World → Prop) (xs : List α) (W : World) : Exit → Act → World → Prop
  | .normal, _, W' => W'.heap[Bx]? = W.heap[Bx]? ∧ W.heap.size ≤ W'.heap.size ∧ (∀ k, k = B ∨ k = B + 1 → W'.heap[k]? = W.heap[k]?) ∧ I xs W'
  | .ret, _, W' => (∀ k, k = B ∨ k = B + 1 → W'.heap[k]? = W.heap[k]?) ∧ Ix xs W'
  | _, _, _ => False

theorem wpIn_rangeW {α : Type} {n : Nat} {P : Program} {g : Operand} {ps : Array Tmp} {assign body : Code} {Q : Exit → Act → World → Prop} {a : Act} {w : World} (h1 : 1 ≤ n) {gf Bx : Nat} {lb : Array Value}
    (hg : a.eval g = .func (.func gf) #[] lb) (eg : ∀ args w, (callFunc gf args).run P w = .ok (.enter gf args) w) {encs : α → Array Value} {o : World → Prop} {S Sp : List α → Prop}
    (hseq : SeqW (n - 1) P gf lb encs Bx o S Sp) (hps : ∀ x, (encs x).size = ps.size) (hBx : Bx < w.heap.size)
    (I Ix : List α → World → Prop) (hI : Holds Bx w.heap.size I) (hIx : Holds Bx w.heap.size Ix) (ho : ∀ W, Mod (fun _ => False) w W → o W) (h0 : I [] w) (A1 : α → Act → World → Prop) (hA1 : ∀ x a' A R R', A1 x a' A → A.heap[w.heap.size + 1]? = some (.loop R) → A1 x a' (A.putObj (w.heap.size + 1) (.loop R')))
    (hround : ∀ (l : Nat) (pre : List α) (x : α) (W : World) (K : Act → World → Prop), I pre W → Sp (pre ++ [x]) → (∀ k, k = w.heap.size ∨ k = w.heap.size + 1 → ∃ ob, W.heap[k]? = some ob ∧ ob.isCells = false) →
      (∀ a' W2, Mod (fun _ => False) W W2 → A1 x a' W2 → K a' W2) →
      assign.wpIn (Fence.wide.inRound l) (n - 1 - 1) P (Exit.then K (fun _ _ _ => False)) { tmps := (ps.zip (encs x)).foldl (fun t (p, v) => t.setIfInBounds p v) a.tmps, defers := [] } W)
    (hbody : ∀ (l : Nat) (pre : List α) (x : α) (a' : Act) (W : World), I pre W → Sp (pre ++ [x]) → A1 x a' W → (∀ k, k = w.heap.size ∨ k = w.heap.size + 1 → ∃ ob, W.heap[k]? = some ob ∧ ob.isCells = false) →
      body.wpIn (Fence.wide.inRound l) (n - 1 - 1) P (BodyPost Bx w.heap.size I Ix (pre ++ [x]) W) a' W)
    (hdone : ∀ (xs : List α) (W : World), S xs → I xs W → W.heap[w.heap.size]? = some (.deferred (some [])) → Q .normal { a with defers := { target := .collected w.heap.size, args := #[] } :: a.defers } W)
    (hstop : ∀ (pre : List α) (W : World), Sp pre → Ix pre W → W.heap[w.heap.size]? = some (.deferred (some [])) → Q .ret { a with defers := { target := .collected w.heap.size, args := #[] } :: a.defers } W) :
    (Code.rangeFunc g ps assign body).wpIn Fence.wide n P Q a w := by
  refine wpIn_rangeFunc ?_
  intro fn hfn
  obtain ⟨R, hR⟩ : ∃ R : LoopState → Option Code → Loop, R = fun st pe => { state := st, pending := pe, fn, tmps := a.tmps, params := ps, assign, body, defers := w.heap.size } := ⟨_, rfl⟩
  obtain ⟨W1, hW1⟩ : ∃ W1, (w.alloc (.deferred (some []))).alloc (.loop (R .ready none)) = W1 := ⟨_, rfl⟩
  have hm1 : Mod (fun _ => False) w W1 := by subst hW1; exact ((Mod.refl _ w).alloc _).alloc _
  have hL1 : LoopAt w.heap.size (R .ready none) W1 := by
    subst hW1
    exact ⟨by have := new_at (w.alloc (.deferred (some []))) (.loop (R .ready none)); rwa [World.size_alloc] at this, alloc_keep (new_at _ _)⟩
  refine ⟨w.heap.size + 1, [{ target := .collected w.heap.size, args := #[] }], W1, { target := .fn (.func gf) lb, args := #[.func (.yield (w.heap.size + 1)) #[] #[]] }, W1, gf,
    #[.func (.yield (w.heap.size + 1)) #[] #[]] ++ lb, W1, ?_, ?_, ?_, ?_, fun _ => h1, ?_⟩
  · rw [← hW1, hR]; exact run_enterLoop_outer _ _ _ _ _
  · simp only [resolve, hg]
    simp [go_sem]
  · intro _ _; trivial
  · simp [invoke, go_sem, eg]
  refine (hseq (w.heap.size + 1) (fun pre W => I pre W ∧ LoopAt w.heap.size (R .ready none) W) (fun pre W => Ix pre W ∧ LoopAt w.heap.size (R .done (some .ret)) W) W1 (ho _ hm1)
    ⟨fun s A C h hm => ⟨hI.mod s A C h.1 hm, h.2.mod hm⟩, fun s A v h => ⟨hI.set s A v h.1, h.2.keep fun k hk => Below.heap_setCell _ _ _ _ (by show k ≠ Bx; omega)⟩⟩
    ⟨fun s A C h hm => ⟨hIx.mod s A C h.1 hm, h.2.mod hm⟩, fun s A v h => ⟨hIx.set s A v h.1, h.2.keep fun k hk => Below.heap_setCell _ _ _ _ (by show k ≠ Bx; omega)⟩⟩ ?_ ⟨hI.mod _ _ _ h0 hm1, hL1⟩).mono ?_
  · rintro pre x W ⟨hi, hl⟩ hsp
    have hy := run_yield (P := P) (args := encs x) hl.1 (by rw [hR]; exact hps x)
    have hnc : ∀ U, LoopAt w.heap.size (R .ready none) U → ∀ k, k = w.heap.size ∨ k = w.heap.size + 1 → ∃ ob, U.heap[k]? = some ob ∧ ob.isCells = false := by
      rintro U h k (rfl | rfl)
      · exact ⟨_, h.2, rfl⟩
      · exact ⟨_, h.1, rfl⟩
    rw [hR] at hy
    refine ⟨fn, _, assign, body, hy, roundIn_of_wpIn hfn (hround _ pre x W _ hi hsp (hnc W hl) fun a' W2 hm2 ha => ?_)⟩
    have hl2 := hl.mod hm2
    have hb := run_beginRound (P := P) hl2.1 (by rw [hR])
    refine ⟨_, hb, ?_⟩
    have hl3 : LoopAt w.heap.size { R .ready none with state := .busy } (W2.putObj (w.heap.size + 1) (.loop { R .ready none with state := .busy })) := hl2.turn
    refine wpIn_mono (hbody _ pre x a' _ (hI.put _ _ _ _ (hI.mod _ _ _ hi hm2) hl2.1) hsp (hA1 _ _ _ _ _ ha hl2.1) ?_) ?_
    · rintro k (rfl | rfl)
      · exact ⟨_, hl3.2, rfl⟩
      · exact ⟨_, hl3.1, rfl⟩
    · have hBx2 : (W2.putObj (w.heap.size + 1) (.loop { R .ready none with state := .busy })).heap[Bx]? = W.heap[Bx]? := (World.putObj_heap_other (by omega)).trans (hm2.block _ (by have := lt_of hl.1; omega) (fun x => x))
      have hsz2 : W.heap.size ≤ (W2.putObj (w.heap.size + 1) (.loop { R .ready none with state := .busy })).heap.size := Nat.le_trans hm2.size (by simp [World.putObj])
      rintro e a3 W3 hp
      cases e with
      | normal =>
        obtain ⟨q1, q2, q3, q4⟩ := hp
        have hl4 := hl3.keep q3
        have hr := run_endRound (P := P) none hl4.1
        refine ⟨_, _, hr, .inl ⟨rfl, ⟨hI.put _ _ _ _ q4 hl4.1, ?_⟩, ?_, ?_⟩⟩
        · have := hl4.turn (R' := { { R .ready none with state := .busy } with state := .ready, pending := none })
          rw [hR] at this ⊢
          exact this
        · exact (World.putObj_heap_other (by omega)).trans (q1.trans hBx2)
        · exact Nat.le_trans (Nat.le_trans hsz2 q2) (by simp [World.putObj])
      | ret =>
        obtain ⟨q3, q4⟩ := hp
        have hl4 := hl3.keep q3
        have hr := run_endRound (P := P) (some .ret) hl4.1
        refine ⟨_, _, hr, .inr ⟨rfl, hIx.put _ _ _ _ q4 hl4.1, ?_⟩⟩
        have := hl4.turn (R' := { { R .ready none with state := .busy } with state := .done, pending := some .ret })
        rw [hR] at this ⊢
        exact this
      | exit id => exact hp.elim
      | goto t => exact hp.elim
      | panic ch => exact hp.elim
      | outgrown => exact hp.elim
  · rintro e W2 ⟨⟨v, rfl⟩, (⟨xs, hS, hi, hl⟩ | ⟨pre, hSp, hi, hl⟩)⟩
    · have he := run_endLoop (P := P) hl.1 (by rw [hR]; simp)
      rw [hR] at he
      exact ⟨none, _, he, hdone xs _ hS (hI.put _ _ _ _ hi hl.1) ((World.putObj_heap_other (by omega)).trans hl.2)⟩
    · have he := run_endLoop (P := P) hl.1 (by rw [hR]; simp)
      rw [hR] at he
      exact ⟨some .ret, _, he, wpIn_ret (hstop pre _ hSp (hIx.put _ _ _ _ hi hl.1) ((World.putObj_heap_other (by omega)).trans hl.2))⟩
end Go.Proofs.YtfkmfllhlhefdaaDoor
