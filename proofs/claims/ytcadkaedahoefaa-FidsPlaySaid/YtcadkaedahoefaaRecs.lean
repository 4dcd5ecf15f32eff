/- A slice of records (several cells each). -/
import Derived.Test.YtcadkaedahoefaaOwn
import Derived.RangeFuncBox
namespace Go.Proofs.Ytcadkaedahoefaa
open Go.RowKit

section
variable {α : Type} (cs : α → List Value) (sz : Nat)
/-- a slice of records that reads as l; its block meets P -/
def RecsAt (w : World) (P : Nat → Prop) (v : Value) (l : List α) : Prop :=
  (l = [] ∧ ∃ a c, v = .slice a 0 c) ∨ ∃ g off cap, v = .slice (some ⟨g, off, none⟩) l.length cap ∧ P g ∧ g < w.heap.size ∧ l.length ≤ cap ∧
    ∀ j s, l[j]? = some s → ∀ i u, (cs s)[i]? = some u → w.cell? ⟨g, off + j * sz + i, none⟩ = some u
def flatR (l : List α) : List Value := l.flatMap cs
variable {cs sz}
theorem RecsAt.mod {w w' : World} {P S : Nat → Prop} {v : Value} {l : List α} (h : RecsAt cs sz w P v l) (hm : Mod S w w') (hp : ∀ g, P g → g < w.heap.size → ¬ S g) : RecsAt cs sz w' P v l := by
  rcases h with h | ⟨g, off, cap, h1, h2, h3, h4, h5⟩
  · exact .inl h
  · exact .inr ⟨g, off, cap, h1, h2, Nat.lt_of_lt_of_le h3 hm.size, h4, fun j s hj i u hu => (World.cell?_of_block (hm.block g h3 (hp g h2 h3))).trans (h5 j s hj i u hu)⟩
theorem RecsAt.imp {w : World} {P Q : Nat → Prop} {v : Value} {l : List α} (h : RecsAt cs sz w P v l) (hp : ∀ g, P g → Q g) : RecsAt cs sz w Q v l := by
  rcases h with h | ⟨g, off, cap, h1, h2, h3⟩
  · exact .inl h
  · exact .inr ⟨g, off, cap, h1, hp g h2, h3⟩
theorem RecsAt.nil (w : World) (P : Nat → Prop) : RecsAt cs sz w P (.slice none 0 0) [] := .inl ⟨rfl, _, _, rfl⟩
theorem RecsAt.form {w : World} {P : Nat → Prop} {v : Value} {l : List α} (h : RecsAt cs sz w P v l) : ∃ a cap, v = .slice a l.length cap ∧ l.length ≤ cap ∧
    ∀ j s, l[j]? = some s → ∃ g off, a = some ⟨g, off, none⟩ ∧ P g ∧ g < w.heap.size ∧ ∀ i u, (cs s)[i]? = some u → w.cell? ⟨g, off + j * sz + i, none⟩ = some u := by
  rcases h with ⟨rfl, a, c, rfl⟩ | ⟨g, off, cap, h1, h2, h3, h4, h5⟩
  · exact ⟨a, c, rfl, Nat.zero_le _, fun j u hj => by simp at hj⟩
  · exact ⟨_, cap, h1, h4, fun j s hj => ⟨g, off, rfl, h2, h3, h5 j s hj⟩⟩
theorem flatR_append (l m : List α) : flatR cs (l ++ m) = flatR cs l ++ flatR cs m := List.flatMap_append
theorem flatR_length (hl : ∀ a, (cs a).length = sz) (l : List α) : (flatR cs l).length = l.length * sz := by
  induction l with
  | nil => rw [List.length_nil, Nat.zero_mul]; rfl
  | cons a l ih => unfold flatR at *; rw [List.flatMap_cons, List.length_append, ih, List.length_cons, hl, Nat.add_mul]; omega
theorem flatR_one (h1 : ∀ a, ∀ u ∈ cs a, u.oneCell' = true) (l : List α) : ∀ u ∈ flatR cs l, u.oneCell' = true := by
  intro u hu
  obtain ⟨s, _, hs⟩ := List.mem_flatMap.1 hu
  exact h1 s u hs
theorem flatR_get (hl : ∀ a, (cs a).length = sz) (L : List α) : ∀ j s, L[j]? = some s → ∀ i, i < sz → (flatR cs L)[j * sz + i]? = (cs s)[i]? := by
  induction L with
  | nil => intro j s h; cases h
  | cons a L ih =>
    intro j s h i hi
    unfold flatR at *
    rw [List.flatMap_cons]
    cases j with
    | zero =>
      simp at h
      subst h
      rw [Nat.zero_mul, Nat.zero_add, List.getElem?_append_left (by rw [hl]; exact hi)]
    | succ j =>
      rw [List.getElem?_append_right (by rw [hl, Nat.add_mul]; omega), ← ih j s h i hi, hl]
      congr 1
      rw [Nat.add_mul]
      omega
theorem flatR_at (h0 : 0 < sz) (hl : ∀ a, (cs a).length = sz) (l : List α) (k : Nat) (u : Value) (h : (flatR cs l)[k]? = some u) : ∃ j i s, k = j * sz + i ∧ l[j]? = some s ∧ (cs s)[i]? = some u := by
  have hk : k < l.length * sz := by rw [← flatR_length hl]; exact (List.getElem?_eq_some_iff.1 h).1
  have hj : k / sz < l.length := Nat.div_lt_of_lt_mul (by rw [Nat.mul_comm]; exact hk)
  have hke : k = k / sz * sz + k % sz := by rw [Nat.mul_comm]; exact (Nat.div_add_mod k sz).symm
  refine ⟨k / sz, k % sz, l[k / sz], hke, List.getElem?_eq_getElem hj, ?_⟩
  have := flatR_get hl l (k / sz) l[k / sz] (List.getElem?_eq_getElem hj) (k % sz) (Nat.mod_lt _ h0)
  rw [← this, ← hke]
  exact h
theorem OwnA.recs (h0 : 0 < sz) (hl : ∀ a, (cs a).length = sz) {w : World} {base n : Nat} {v : Value} {l : List α} (h : OwnA w base sz v n (flatR cs l)) : RecsAt cs sz w (base ≤ ·) v l := by
  obtain ⟨h1, h2⟩ := h
  rw [flatR_length hl] at h1
  obtain rfl : l.length = n := Nat.eq_of_mul_eq_mul_right h0 h1
  rcases h2 with ⟨h2, h3⟩ | ⟨g, cap, hv, hg, hll, hn, _, _, hc⟩
  · exact .inl ⟨List.eq_nil_of_length_eq_zero h3, _, _, h2⟩
  · refine .inr ⟨g, 0, cap, hv, hg, hll, hn, fun j s hj i u hu => ?_⟩
    have hi : i < sz := by rw [← hl s]; exact (List.getElem?_eq_some_iff.1 hu).1
    rw [Nat.zero_add]
    exact hc (j * sz + i) u ((flatR_get hl l j s hj i hi).trans hu)
theorem src_recs {P : Program} {tx e : TypeId} (hk : P.underlying tx = some (.slice e)) (h0 : 0 < sz) (hl : ∀ a, (cs a).length = sz) (h1 : ∀ a, ∀ u ∈ cs a, u.oneCell' = true) {w : World} {Q : Nat → Prop} {a : Option Addr} {n c : Nat} {l : List α} (h : RecsAt cs sz w Q (.slice a n c) l) (hn : l.length = n) : Src P sz tx (.slice a n c) n (flatR cs l) w := by
  rcases h with ⟨rfl, a', c', h⟩ | ⟨g, off, cap, h, _, _, _, hc⟩
  · obtain rfl : n = 0 := hn.symm
    cases a with
    | none => exact Src.ofNil _ hk c
    | some ad => exact Src.ofSlice _ hk ad 0 c [] (by simp) (fun j u hj => by simp at hj) (fun u hu => by cases hu)
  · injection h with e1 e2 e3
    subst e1
    refine Src.ofSlice _ hk _ n c (flatR cs l) (by rw [flatR_length hl, hn]) (fun k u hk => ?_) (flatR_one h1 l)
    rw [show (⟨g, off, none⟩ : Addr).add k = ⟨g, off + k, none⟩ from by unfold Addr.add; split <;> simp_all]
    obtain ⟨j, i, s, rfl, hj, hi⟩ := flatR_at h0 hl l k u hk
    rw [← Nat.add_assoc]
    exact hc j s hj i u hi
end
/-- a row that keeps off what is turned -/
theorem owns_nearR {A C : World} {E : Nat → Prop} (hm : Mod E A C) {B size n : Nat} {e : TypeId} {v : Value} {xs : List Value} (h : A.ownsRow B e size v n xs) (hE : ∀ k cs, E k → A.heap[k]? ≠ some (.cells cs e (0, 0))) : C.ownsRow B e size v n xs := by
  refine ⟨h.1, ?_⟩
  rcases h.2 with hn | ⟨g, cap, cur, hv, hb, hgg, r⟩
  · exact .inl hn
  · exact .inr ⟨g, cap, cur, hv, hb, (hm.block g (lt_of hgg) (fun x => hE g _ x hgg)).trans hgg, r⟩
theorem mod_putR {A : World} {k : Nat} (o' : Obj) : Mod (· = k) A (A.putObj k o') := by
  have hg := grownBy_putObj' A k o'
  exact ⟨hg.os, hg.tape, hg.output, hg.size, fun j hj hs => hg.block j hj (fun e => hs (by injection e))⟩
theorem row_neR {A : World} {B size n : Nat} {e : TypeId} {v : Value} {xs : List Value} {k : Nat} {o : Obj} (h : A.ownsRow B e size v n xs) (hk : A.heap[k]? = some o) (ht : ∀ cs, o ≠ .cells cs e (0, 0)) : some k ≠ v.ownBlock := by
  rcases h.2 with ⟨rfl, _⟩ | ⟨g, cap, cur, rfl, _, hgg, _⟩
  · intro e; simp [Value.ownBlock] at e
  · intro e
    have e1 : k = g := by simpa [Value.ownBlock] using e
    subst e1
    rw [hk] at hgg
    injection hgg with hgg
    exact ht _ hgg
theorem mod_belowR {a c d : World} (h : Mod (fun _ => False) a c) (k : Below a.heap.size c d) : Mod (fun _ => False) a d :=
  ⟨k.os.trans h.os, k.tape.trans h.tape, k.output.trans h.output, Nat.le_trans h.size k.size, fun i hi hs => (k.block i hi).trans (h.block i hi hs)⟩
theorem setCell_idR {w : World} {b i : Nat} {cs : Array Value} {e : TypeId} {v : Value} (h : w.heap[b]? = some (.cells cs e (0, 0))) (hv : cs[i]? = some v) : w.setCell ⟨b, i, none⟩ v = w := by
  have hi : i < cs.size := (Array.getElem?_eq_some_iff.1 hv).1
  have hcs : cs.setIfInBounds i v = cs := by
    obtain ⟨_, h2⟩ := Array.getElem?_eq_some_iff.1 hv
    rw [Array.setIfInBounds, dif_pos hi, ← h2, Array.set_getElem_self]
  have hh : (w.setCell ⟨b, i, none⟩ v).heap = w.heap := by
    apply Array.ext_getElem?
    intro j
    by_cases hj : j = b
    · subst hj
      rw [heap_set h i v, hcs, h]
    · rw [Below.heap_setCell _ _ _ _ hj]
  show { w with heap := (w.setCell ⟨b, i, none⟩ v).heap } = w
  rw [hh]
theorem keepR {U V : World} (hm : Mod (fun _ => False) U V) {b i : Nat} {v : Value} (h : U.cell? ⟨b, i, none⟩ = some v) : V.cell? ⟨b, i, none⟩ = some v :=
  (World.cell?_of_block (a := ⟨b, i, none⟩) (hm.block b (World.block_lt_of_cell? _ _ h) (fun x => x))).trans h
end Go.Proofs.Ytcadkaedahoefaa
