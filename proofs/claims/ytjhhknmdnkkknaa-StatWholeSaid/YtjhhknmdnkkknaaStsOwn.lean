/- A row of stats of the call's own. -/
import Derived.Test.YtjhhknmdnkkknaaSts
namespace Go.Proofs.Ytjhhknmdnkkknaa
open Go.RowKit

theorem info_stat : (Try.prog.info? 28).map (fun i => (i.zero, i.size, i.bytes)) = some (some (.agg #[.int .u16 0, .int .u32 0, .int .u8 0, .int .u32 0, .int .u64 0, .int .u32 0, .int .u32 0, .int .u32 0, .int .u64 0, .string { data := #[] }, .string { data := #[] }, .string { data := #[] }, .string { data := #[] }]), 13, 112) := by kernel_rfl
def flatS (l : List St) : List Value := l.flatMap St.cells
theorem flatS_length (l : List St) : (flatS l).length = l.length * 13 := by
  induction l with
  | nil => rfl
  | cons a l ih => unfold flatS at *; rw [List.flatMap_cons, List.length_append, ih, List.length_cons]; show 13 + _ = _; omega
theorem flatS_one (l : List St) : ∀ u ∈ flatS l, u.oneCell' = true := by
  intro u hu
  obtain ⟨s, _, hs⟩ := List.mem_flatMap.1 hu
  simp only [St.cells, List.mem_cons, List.not_mem_nil, or_false] at hs
  rcases hs with rfl | rfl | rfl | rfl | rfl | rfl | rfl | rfl | rfl | rfl | rfl | rfl | rfl <;> rfl
theorem flatS_at (l : List St) (k : Nat) (u : Value) (h : (flatS l)[k]? = some u) : ∃ j i s, k = j * 13 + i ∧ l[j]? = some s ∧ s.cells[i]? = some u := by
  have hk : k < l.length * 13 := by rw [← flatS_length]; exact (List.getElem?_eq_some_iff.1 h).1
  have hj : k / 13 < l.length := by omega
  refine ⟨k / 13, k % 13, l[k / 13], by omega, List.getElem?_eq_getElem hj, ?_⟩
  have := flat_get l (k / 13) l[k / 13] (List.getElem?_eq_getElem hj) (k % 13) (by omega)
  rw [← this, show k / 13 * 13 + k % 13 = k from by omega]
  exact h
theorem src_sts {w : World} {Q : Nat → Prop} {a : Option Addr} {n c : Nat} {l : List St} (h : StsAt w Q (.slice a n c) l) (hn : l.length = n) : Src Try.prog 13 30 (.slice a n c) n (flatS l) w := by
  rcases h with ⟨rfl, a', c', h⟩ | ⟨g, off, cap, h, _, _, _, hc⟩
  · obtain rfl : n = 0 := hn.symm
    cases a with
    | none => exact Src.ofNil _ Try.underlying30 c
    | some ad => exact Src.ofSlice _ Try.underlying30 ad 0 c [] rfl (fun j u hj => by simp at hj) (fun u hu => by cases hu)
  · injection h with e1 e2 e3
    subst e1
    refine Src.ofSlice _ Try.underlying30 _ n c (flatS l) (by rw [flatS_length]; omega) (fun k u hk => ?_) (flatS_one l)
    rw [show (⟨g, off, none⟩ : Addr).add k = ⟨g, off + k, none⟩ from by unfold Addr.add; split <;> simp_all]
    obtain ⟨j, i, s, rfl, hj, hi⟩ := flatS_at l k u hk
    rw [← Nat.add_assoc]
    exact hc j s hj i u hi
theorem OwnA.sts {w : World} {base n : Nat} {v : Value} {l : List St} (h : OwnA w base 13 v n (flatS l)) : StsAt w (base ≤ ·) v l := by
  obtain ⟨h1, h2⟩ := h
  rw [flatS_length] at h1
  obtain rfl : l.length = n := by omega
  rcases h2 with ⟨h2, h3⟩ | ⟨g, cap, hv, hg, hl, hn, _, _, hc⟩
  · exact .inl ⟨List.eq_nil_of_length_eq_zero h3, _, _, h2⟩
  · refine .inr ⟨g, 0, cap, hv, hg, hl, hn, fun j s hj i u hu => ?_⟩
    have hi : i < 13 := (List.getElem?_eq_some_iff.1 hu).1
    rw [Nat.zero_add]
    exact hc (j * 13 + i) u ((flat_get l j s hj i hi).trans hu)
theorem flatS_append (l m : List St) : flatS (l ++ m) = flatS l ++ flatS m := List.flatMap_append
end Go.Proofs.Ytjhhknmdnkkknaa
