/- Package dir's load. -/
import Derived.Test.YtfkmfllhlhefdaaDoorDirEnts
import Derived.Test.YtfkmfllhlhefdaaDoorDirIter
import Derived.Test.YtfkmfllhlhefdaaDoorDirRead
import Derived.Test.YtfkmfllhlhefdaaDoorMapFun
import Derived.Test.YtfkmfllhlhefdaaDoorRegionRound
namespace Go.Proofs.YtfkmfllhlhefdaaDoor
open Go.RowKit Go.Shelf
attribute [local go_sem] Oper.semAt_some

set_option maxHeartbeats 400000 in
theorem slots_any (b : ByteArray) (w : World) :
    Calls Tryd.prog 39 #[.string b] w fun e w' => e = .returned (.func (.func 45) #[] #[.pointer (some ⟨w.heap.size, 0, none⟩)]) ∧ w.alloc (.cells #[.string b] 9) = w' := by
  go_enter Tryd.func39, Tryd.ntmps39
  go_wp2
  go_ret
  exact ⟨rfl, rfl⟩
def fN (l : List Ent) (n : ByteArray) : Option Value := (findE l n).map Ent.v
def fP (l : List Ent) (p : Nat) : Option Value := if hasP l p = true then some (.bool true) else none
abbrev MapN (w : World) (b n : Nat) (l : List Ent) : Prop := MapF Tryd.prog 9 encStr w b n (fN l)
abbrev MapP (w : World) (b n : Nat) (l : List Ent) : Prop := MapF Tryd.prog 22 encU64 w b n (fP l)
def tabZ : Obj := .cells #[.map none, .map none, .slice none 0 0, .int .i64 0] 58 (0, 0)
def boolF : Obj := .cells #[.bool false] 4 (0, 0)
/-- while load collects -/
structure LoadI (w : World) (s : ByteArray) (pre : List (Nat × ByteArray)) (W : World) : Prop where
  r1 : W.heap[w.heap.size]? = some tabZ
  r2 : W.heap[w.heap.size + 1]? = some boolF
  tb : ∃ l v, goE (pre.map Prod.snd) 0 [] = some l ∧ W.heap[w.heap.size + 4]? = some (.cells #[.map (some (w.heap.size + 2)), .map (some (w.heap.size + 3)), v, .int .i64 (freeOf (pre.map Prod.snd) (s.size / 64))] 58 (0, 0)) ∧
    W.ownsRow w.heap.size 36 3 v l.length (flatE l) ∧ MapN W (w.heap.size + 2) l.length l ∧ MapP W (w.heap.size + 3) l.length l
  bx : ∃ u, W.heap[w.heap.size + 5]? = some (.cells #[u] 9 (0, 0))
  mod : Mod (fun _ => False) w W
/-- when it is left ahead of the end -/
structure LoadX (w : World) (pre : List (Nat × ByteArray)) (W : World) : Prop where
  r1 : W.heap[w.heap.size]? = some tabZ
  r2 : W.heap[w.heap.size + 1]? = some boolF
  no : goE (pre.map Prod.snd) 0 [] = none
  mod : Mod (fun _ => False) w W
theorem LoadI.near {w : World} {s : ByteArray} {pre : List (Nat × ByteArray)} {A C : World} {E : Nat → Prop} (h : LoadI w s pre A) (hm : Mod E A C) (hE : ∀ k, E k → k = w.heap.size + 5 ∨ (w.heap.size ≤ k ∧ ∃ R, A.heap[k]? = some (.loop R)))
    (hb : ∃ u, C.heap[w.heap.size + 5]? = some (.cells #[u] 9 (0, 0))) : LoadI w s pre C := by
  have nc : ∀ k o, A.heap[k]? = some o → k ≠ w.heap.size + 5 → (∀ R, o ≠ .loop R) → ¬ E k := fun k o hk hne hl hx => by
    rcases hE k hx with g | ⟨_, R, hR⟩
    · exact hne g
    · rw [hk] at hR; cases hR; exact hl _ rfl
  have kp : ∀ k o, A.heap[k]? = some o → k ≠ w.heap.size + 5 → (∀ R, o ≠ .loop R) → C.heap[k]? = A.heap[k]? := fun k o hk hne hl => hm.block _ (lt_of hk) (nc k o hk hne hl)
  obtain ⟨l, v, hg, hv, hrow, hN, hP⟩ := h.tb
  obtain ⟨u, hu⟩ := h.bx
  obtain ⟨e1, c1, hn⟩ := hN.obj
  obtain ⟨e2, c2, hp⟩ := hP.obj
  refine ⟨(kp _ _ h.r1 (by omega) (fun R e => by cases e)).trans h.r1, (kp _ _ h.r2 (by omega) (fun R e => by cases e)).trans h.r2,
    ⟨l, v, hg, (kp _ _ hv (by omega) (fun R e => by cases e)).trans hv, owns_nearR hm hrow fun k cs hx hk => ?_, hN.same (kp _ _ hn (by omega) (fun R e => by cases e)), hP.same (kp _ _ hp (by omega) (fun R e => by cases e))⟩, hb, h.mod.trans' hm fun k hk hx => ?_⟩
  · rcases hE k hx with g | ⟨_, R, hR⟩
    · subst g
      rw [hu] at hk
      simp at hk
    · rw [hk] at hR; cases hR
  · rcases hE k hx with g | ⟨g, _⟩ <;> omega
theorem LoadX.near {w : World} {pre : List (Nat × ByteArray)} {A C : World} {E : Nat → Prop} (h : LoadX w pre A) (hm : Mod E A C) (hE : ∀ k, E k → k = w.heap.size + 5 ∨ (w.heap.size ≤ k ∧ ∃ R, A.heap[k]? = some (.loop R))) : LoadX w pre C := by
  have nc : ∀ k o, A.heap[k]? = some o → k ≠ w.heap.size + 5 → (∀ R, o ≠ .loop R) → ¬ E k := fun k o hk hne hl hx => by
    rcases hE k hx with g | ⟨_, R, hR⟩
    · exact hne g
    · rw [hk] at hR; cases hR; exact hl _ rfl
  refine ⟨(hm.block _ (lt_of h.r1) (nc _ _ h.r1 (by omega) (fun R e => by cases e))).trans h.r1, (hm.block _ (lt_of h.r2) (nc _ _ h.r2 (by omega) (fun R e => by cases e))).trans h.r2, h.no, h.mod.trans' hm fun k hk hx => ?_⟩
  rcases hE k hx with g | ⟨g, _⟩ <;> omega
theorem loadI_holds (w : World) (s : ByteArray) (B : Nat) (hB : w.heap.size ≤ B + 1) : Holds (w.heap.size + 5) B (LoadI w s) := by
  refine ⟨fun s A C h hm => h.near hm (fun k x => x.elim) ?_, fun s A v h => ?_, fun s A R R' h hR => ?_⟩
  · obtain ⟨u, hu⟩ := h.bx
    exact ⟨u, (hm.block _ (lt_of hu) (fun x => x)).trans hu⟩
  · obtain ⟨u, hu⟩ := h.bx
    exact h.near (Mod.set1 A (w.heap.size + 5) 0 v) (fun k x => Or.inl x) ⟨v, heap_set hu 0 v⟩
  · obtain ⟨u, hu⟩ := h.bx
    have hne : w.heap.size + 5 ≠ B + 1 := fun e => by rw [e, hR] at hu; cases hu
    exact h.near (mod_putR (k := B + 1) _) (fun k x => Or.inr ⟨by omega, R, by rw [x]; exact hR⟩) ⟨u, (World.putObj_heap_other hne).trans hu⟩
theorem loadX_holds (w : World) (B : Nat) (hB : w.heap.size ≤ B + 1) : Holds (w.heap.size + 5) B (LoadX w) :=
  ⟨fun s A C h hm => h.near hm (fun k x => x.elim), fun s A v h => h.near (Mod.set1 A (w.heap.size + 5) 0 v) (fun k x => Or.inl x), fun s A R R' h hR => h.near (mod_putR (k := B + 1) _) (fun k x => Or.inr ⟨by omega, R, by rw [x]; exact hR⟩)⟩
theorem lawN : Maps.Keyed Tryd.prog 9 := Maps.string_keyed Tryd.underlying9
theorem lawP : Maps.Keyed Tryd.prog 22 := Maps.int_keyed Tryd.underlying22
theorem zeroE (w : World) : (zeroValue 36).run Tryd.prog w = .ok (.agg #[.int .i64 0, .int .u64 0, .string { data := #[] }]) w := by kernel_rfl
theorem zeroB (w : World) : (zeroValue 4).run Tryd.prog w = .ok (.bool false) w := by kernel_rfl
def ent0 (l : List Ent) (n : ByteArray) : Ent := (findE l n).getD ⟨0, 0, ⟨#[]⟩⟩
theorem MapF.lookN {w : World} {b m : Nat} {l : List Ent} (h : MapN w b m l) (n : ByteArray) (hn : n.size ≤ maxLen) :
    (Instr.lookup 55 (.map (some b)) (.string n) true).run Tryd.prog w = .ok (.tuple #[.agg #[.int .i64 (ent0 l n).slot, .int .u64 (ent0 l n).path, .string (ent0 l n).name], .bool (findE l n).isSome]) w := by
  have := MapF.look_ok h lawN Tryd.underlying55 (zeroE w) (x := n) (key_str Tryd.underlying9 hn)
  rw [this]
  unfold fN ent0
  cases findE l n <;> rfl
theorem lookN_nil (w : World) (n : ByteArray) (hn : n.size ≤ maxLen) :
    (Instr.lookup 55 (.map none) (.string n) true).run Tryd.prog w = .ok (.tuple #[.agg #[.int .i64 (ent0 [] n).slot, .int .u64 (ent0 [] n).path, .string (ent0 [] n).name], .bool (findE [] n).isSome]) w :=
  Maps.look_nil true lawN Tryd.underlying55 (zeroE w) (key_str Tryd.underlying9 hn)
theorem MapF.lookP {w : World} {b m : Nat} {l : List Ent} (h : MapP w b m l) (p : Nat) (hp : p < 18446744073709551616) :
    (Instr.lookup 56 (.map (some b)) (.int .u64 p) false).run Tryd.prog w = .ok (.bool (hasP l p)) w := by
  have := MapF.look h lawP Tryd.underlying56 (zeroB w) (x := p) (key_u64 Tryd.underlying22 hp)
  rw [this]
  unfold fP
  cases hasP l p <;> rfl
end Go.Proofs.YtfkmfllhlhefdaaDoor
