/- The rows that BitsApart keeps: owner, at, size. -/
import Derived.Test.YtaoldidkbfhlpaaPApart
import Derived.Test.YtaoldidkbfhlpaaOwn
import Derived.Test.YtaoldidkbfhlpaaBitsMore
namespace Go.Proofs.Ytaoldidkbfhlpaa
open Go.RowKit

theorem info_int : (Try.prog.info? 3).map (fun i => (i.zero, i.size, i.bytes)) = some (some (.int .i64 0), 1, 8) := by kernel_rfl

def orow (ow : Nat → Int) (n : Nat) : List Value := (List.range n).map fun j => Value.int .i64 (ow j)
theorem orow_get (ow : Nat → Int) (n j : Nat) (h : j < n) : (orow ow n)[j]? = some (.int .i64 (ow j)) := by simp [orow, List.getElem?_range h]
theorem orow_zero (n : Nat) : List.replicate n (Value.int .i64 0) = orow (fun _ => 0) n := by
  apply List.ext_getElem?
  intro j
  by_cases h : j < n
  · rw [orow_get _ _ _ h, List.getElem?_replicate, if_pos h]
  · rw [List.getElem?_eq_none (by simp; omega), List.getElem?_eq_none (by simp [orow]; omega)]
theorem orow_set (ow ow' : Nat → Int) (n j : Nat) (x : Int) (hj : j < n) (h : ∀ i, ow' i = if j = i then x else ow i) : (orow ow n).toArray.setIfInBounds j (.int .i64 x) = (orow ow' n).toArray := by
  apply Array.ext_getElem?
  intro i
  rw [Array.getElem?_setIfInBounds, List.getElem?_toArray, List.getElem?_toArray]
  by_cases hi : i < n
  · rw [orow_get _ _ _ hi, orow_get _ _ _ hi, h]
    by_cases e : j = i
    · rw [if_pos e, if_pos e, if_pos (by simp [orow]; omega)]
    · rw [if_neg e, if_neg e]
  · rw [if_neg (by omega), List.getElem?_eq_none (by simp [orow]; omega), List.getElem?_eq_none (by simp [orow]; omega)]

theorem lt_of_cell {w : World} {b i : Nat} {v : Value} (h : w.cell? ⟨b, i, none⟩ = some v) : b < w.heap.size := World.block_lt_of_cell? (a := ⟨b, i, none⟩) _ h
theorem class_arith (cc : Nat) (hcc : cc ≤ 4) : ∃ K : Nat, 2 ^ cc = K ∧ bits .and .i64 (cc : Int) 7 = cc ∧ wrap64 (2 ^ cc) = (K : Int) ∧ 1 ≤ K ∧ K ≤ 16 ∧ (K = 1 ∨ K = 2 ∨ K = 4 ∨ K = 8 ∨ K = 16) := by
  refine ⟨2 ^ cc, rfl, ?_, ?_, (pow_le16 hcc).1, (pow_le16 hcc).2, ?_⟩
  · have h := bits_mask .i64 63 (by decide) (fun n _ _ => by rw [IntKind.wrap_i64]; omega) 3 (by decide) (cc : Int) (by omega) (by omega)
    rw [show (2 : Int) ^ 3 - 1 = 7 from rfl, show (2 : Int) ^ 3 = 8 from rfl] at h
    rw [h]; omega
  · rw [(find_arith 1 cc 0 hcc (by decide) (Nat.zero_le _)).1, Int.natCast_pow]
    rfl
  · rcases (show cc = 0 ∨ cc = 1 ∨ cc = 2 ∨ cc = 3 ∨ cc = 4 from by omega) with rfl | rfl | rfl | rfl | rfl <;> simp
/-- the owner's row, and the two rows that grow -/
def ints (l : List Nat) : List Value := l.map fun x : Nat => Value.int .i64 (x : Int)
theorem ints_append (l : List Nat) (x : Nat) : ints (l ++ [x]) = ints l ++ [.int .i64 (x : Int)] := by simp [ints]
theorem ints_get (l : List Nat) (j : Nat) (h : j < l.length) : (ints l)[j]? = some (.int .i64 (l[j] : Int)) := by simp [ints, List.getElem?_eq_getElem h]
structure Rows (W : World) (o base n : Nat) (ow : Nat → Int) (A Z : List Nat) (vA vZ : Value) : Prop where
  own : W.heap[o]? = some (.cells (orow ow n).toArray 3 (0, 0))
  at_ : OwnA W base 1 vA A.length (ints A)
  sz : OwnA W base 1 vZ Z.length (ints Z)
  ob : o < base
  dis : ∀ k, some k = vA.ownBlock → some k = vZ.ownBlock → False
theorem Rows.mod {W W' : World} {o base n : Nat} {ow : Nat → Int} {A Z : List Nat} {vA vZ : Value} {S : Nat → Prop} (h : Rows W o base n ow A Z vA vZ) (hm : Mod S W W') (h1 : ¬ S o) (h2 : ∀ k, base ≤ k → ¬ S k) : Rows W' o base n ow A Z vA vZ :=
  ⟨(hm.block o (lt_of h.own) h1).trans h.own, h.at_.mod hm h2, h.sz.mod hm h2, h.ob, h.dis⟩
theorem Rows.set {W : World} {o base n : Nat} {ow : Nat → Int} {A Z : List Nat} {vA vZ : Value} (h : Rows W o base n ow A Z vA vZ) (j : Nat) (x : Int) (ow' : Nat → Int) (hj : j < n) (hw : ∀ i, ow' i = if j = i then x else ow i) :
    Rows (W.setCell ⟨o, j, none⟩ (.int .i64 x)) o base n ow' A Z vA vZ := by
  have hm := Mod.set1 W o j (.int .i64 x)
  have hob := h.ob
  exact ⟨by rw [heap_set h.own, orow_set ow ow' n j x hj hw], h.at_.mod hm (fun k hk e => by omega), h.sz.mod hm (fun k hk e => by omega), h.ob, h.dis⟩
theorem Rows.cell {W : World} {o base n : Nat} {ow : Nat → Int} {A Z : List Nat} {vA vZ : Value} (h : Rows W o base n ow A Z vA vZ) (j : Nat) (hj : j < n) : W.cell? ⟨o, j, none⟩ = some (.int .i64 (ow j)) := by
  rw [cell_of h.own, List.getElem?_toArray, orow_get _ _ _ hj]
theorem Rows.free {W : World} {o base n : Nat} {ow : Nat → Int} {A Z : List Nat} {vA vZ : Value} (h : Rows W o base n ow A Z vA vZ) (j : Nat) : W.frozen? ⟨o, j, none⟩ = false := free_of h.own j
theorem Rows.pushA {W W2 : World} {o base n : Nat} {ow : Nat → Int} {A Z : List Nat} {vA vA' vZ : Value} {x : Nat} {ob : Obj} (h : Rows W o base n ow A Z vA vZ) (hb : base ≤ W.heap.size)
    (hn : OwnA W2 base 1 vA' (A.length + 1) (ints A ++ [.int .i64 (x : Int)])) (hm : Mod (fun k => some k = vA.ownBlock) (W.alloc ob) W2) (hk : vA'.ownBlock = vA.ownBlock ∨ vA'.ownBlock = some (W.alloc ob).heap.size) : Rows W2 o base n ow (A ++ [x]) Z vA' vZ := by
  have hob := h.ob
  refine ⟨?_, by rw [ints_append, List.length_append]; exact hn, ((h.sz.mod (S := fun _ => False) ((Mod.refl _ W).alloc ob) (fun _ _ x => x)).modB hm (fun k h1 h2 => h.dis k h2 h1)), h.ob, fun k h1 h2 => ?_⟩
  · rw [hm.block o (by rw [World.size_alloc]; omega) (fun e => by have := (h.at_.lt o e).1; omega)]
    exact alloc_keep h.own
  · rcases hk with hk | hk
    · rw [hk] at h1; exact h.dis k h1 h2
    · rw [hk] at h1
      have := (h.sz.lt k h2).2
      rw [World.size_alloc] at h1
      simp only [Option.some.injEq] at h1
      omega
theorem Rows.pushZ {W W2 : World} {o base n : Nat} {ow : Nat → Int} {A Z : List Nat} {vA vZ vZ' : Value} {x : Nat} {ob : Obj} (h : Rows W o base n ow A Z vA vZ) (hb : base ≤ W.heap.size)
    (hn : OwnA W2 base 1 vZ' (Z.length + 1) (ints Z ++ [.int .i64 (x : Int)])) (hm : Mod (fun k => some k = vZ.ownBlock) (W.alloc ob) W2) (hk : vZ'.ownBlock = vZ.ownBlock ∨ vZ'.ownBlock = some (W.alloc ob).heap.size) : Rows W2 o base n ow A (Z ++ [x]) vA vZ' := by
  have hob := h.ob
  refine ⟨?_, ((h.at_.mod (S := fun _ => False) ((Mod.refl _ W).alloc ob) (fun _ _ x => x)).modB hm (fun k h1 h2 => h.dis k h1 h2)), by rw [ints_append, List.length_append]; exact hn, h.ob, fun k h1 h2 => ?_⟩
  · rw [hm.block o (by rw [World.size_alloc]; omega) (fun e => by have := (h.sz.lt o e).1; omega)]
    exact alloc_keep h.own
  · rcases hk with hk | hk
    · rw [hk] at h2; exact h.dis k h1 h2
    · rw [hk] at h2
      have := (h.at_.lt k h1).2
      rw [World.size_alloc] at h2
      simp only [Option.some.injEq] at h2
      omega
theorem OwnA.cellAt {w : World} {base n n2 g cap : Nat} {l : List Nat} (h : OwnA w base 1 (.slice (some ⟨g, 0, none⟩) n cap) n2 (ints l)) (j : Nat) (hj : j < l.length) : w.cell? ⟨g, j, none⟩ = some (.int .i64 (l[j] : Int)) := by
  rcases h.2 with ⟨h1, _⟩ | ⟨g', cap', hv, _, _, _, _, _, hc⟩
  · cases h1
  · injection hv with e1 e2 e3
    injection e1 with e1
    injection e1 with e1 _ _
    subst e1
    exact hc j _ (ints_get l j hj)
theorem OwnA.freeAt {w : World} {base n n2 g cap : Nat} {xs : List Value} (h : OwnA w base 1 (.slice (some ⟨g, 0, none⟩) n cap) n2 xs) (j : Nat) (hj : j < n2) : w.frozen? ⟨g, j, none⟩ = false := by
  rcases h.2 with ⟨h1, _⟩ | ⟨g', cap', hv, _, _, hn, _, hf, _⟩
  · cases h1
  · injection hv with e1 e2 e3
    injection e1 with e1
    injection e1 with e1 _ _
    subst e1
    exact hf j (by omega)
theorem OwnA.shape {w : World} {base n : Nat} {v : Value} {l : List Nat} (h : OwnA w base 1 v n (ints l)) : ∃ a cap, v = .slice a n cap ∧ ∀ j, j < n → ∃ g, a = some ⟨g, 0, none⟩ ∧ base ≤ g := by
  rcases h.2 with ⟨h1, h2⟩ | ⟨g, cap, hv, hb, _⟩
  · exact ⟨none, 0, by rw [h1, h2], fun j hj => by omega⟩
  · exact ⟨_, cap, hv, fun j _ => ⟨g, rfl, hb⟩⟩
/-- the last of the sizes is turned -/
theorem Rows.setLast {W : World} {o base n g len cap : Nat} {ow : Nat → Int} {A Z : List Nat} {vA : Value} {x y : Nat} (hlen : len = Z.length + 1) (h : Rows W o base n ow A (Z ++ [x]) vA (.slice (some ⟨g, 0, none⟩) len cap)) :
    Rows (W.setCell ⟨g, Z.length, none⟩ (.int .i64 (y : Int))) o base n ow A (Z ++ [y]) vA (.slice (some ⟨g, 0, none⟩) len cap) ∧ Mod (· = g) W (W.setCell ⟨g, Z.length, none⟩ (.int .i64 (y : Int))) ∧ base ≤ g := by
  subst hlen
  have hm := Mod.set1 W g Z.length (.int .i64 (y : Int))
  have hob := h.ob
  have hlt := h.sz.lt g rfl
  have hz := h.sz
  rcases hz.2 with ⟨h1, _⟩ | ⟨g', cap', hv, hb, hg, hn, hs, hf, hc⟩
  · cases h1
  · injection hv with e1 e2 e3
    injection e1 with e1
    injection e1 with e1 _ _
    subst e1
    subst e3
    rw [List.length_append, List.length_singleton] at hn
    refine ⟨⟨?_, h.at_.modB hm (fun k h1 h2 => by subst h2; exact h.dis k h1 rfl), ⟨by simp [ints], .inr ⟨g, cap, by rw [List.length_append]; rfl, hb, by simpa [World.setCell] using hg, by rw [List.length_append]; exact hn, fun j hj => ?_, fun j hj => by rw [World.frozen?_setCell]; exact hf j hj, fun j u hj => ?_⟩⟩, h.ob, h.dis⟩, hm, hlt.1⟩
    · rw [hm.block o (lt_of h.own) (by omega)]; exact h.own
    · by_cases e : j = Z.length
      · subst e
        rw [World.cell?_setCell_same' _ _ _ (hs _ (by omega))]; rfl
      · rw [show (W.setCell ⟨g, Z.length, none⟩ (.int .i64 (y : Int))).cell? ⟨g, j, none⟩ = W.cell? ⟨g, j, none⟩ from World.cell?_setCell_other W _ _ _ (by intro hh; injection hh with _ h2 _; omega)]; exact hs j hj
    · by_cases e : j = Z.length
      · subst e
        rw [World.cell?_setCell_same' _ _ _ (hs _ (by omega))]
        rw [← hj]
        simp [ints]
      · rw [show (W.setCell ⟨g, Z.length, none⟩ (.int .i64 (y : Int))).cell? ⟨g, j, none⟩ = W.cell? ⟨g, j, none⟩ from World.cell?_setCell_other W _ _ _ (by intro hh; injection hh with _ h2 _; omega)]
        apply hc j u
        have hjl := (List.getElem?_eq_some_iff.1 hj).1
        simp only [ints, List.length_map, List.length_append, List.length_singleton] at hjl
        simp only [ints, List.map_append] at hj ⊢
        rw [List.getElem?_append_left (by simp; omega)] at hj ⊢
        exact hj

end Go.Proofs.Ytaoldidkbfhlpaa
