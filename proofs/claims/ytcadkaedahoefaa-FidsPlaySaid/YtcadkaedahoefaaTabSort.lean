/- What numbers stand for: the sort of a row. -/
import Derived.Test.YtcadkaedahoefaaPTab
import Derived.Test.YtcadkaedahoefaaTags
import Derived.Test.YtcadkaedahoefaaShelf
namespace Go.Proofs.Ytcadkaedahoefaa
open Go.RowKit Go.Shelf Go.Lib Go.Sort

instance : Inhabited Fd := ⟨Fd.zero⟩
def heldC (p : Nat × Fd) : List Value := [.int .u32 p.1, .int .u64 p.2.path, .string p.2.who, .bool p.2.opn, .int .u8 p.2.mode, .int .u64 p.2.next]
theorem held_len (p : Nat × Fd) : (heldC p).length = 6 := rfl
theorem held_one (p : Nat × Fd) : ∀ u ∈ heldC p, u.oneCell' = true := by
  intro u hu
  simp only [heldC, List.mem_cons, List.not_mem_nil, or_false] at hu
  rcases hu with rfl | rfl | rfl | rfl | rfl | rfl <;> rfl
abbrev HeldAt (w : World) (P : Nat → Prop) (v : Value) (l : HL) : Prop := RecsAt heldC 6 w P v l
def cfH (x y : Nat × Fd) : Int := if x.1 < y.1 then -1 else 1
theorem ltH (x y : Nat × Fd) : ltOf cfH x y = decide (x.1 < y.1) := by
  unfold ltOf cfH
  by_cases h : x.1 < y.1 <;> simp [h]
theorem swoH : SWO (ltOf cfH) where
  irrefl x := by rw [ltH]; simp
  trans x y z h1 h2 := by rw [ltH] at *; simp at *; omega
  ntrans x y z h1 h2 := by rw [ltH] at *; simp at *; omega
set_option maxHeartbeats 1000000 in
theorem cmp_any (x y : Nat × Fd) (W : World) : Calls Try.prog 39 #[.agg (heldC x).toArray, .agg (heldC y).toArray] W fun e w' => e = .returned (.int .i64 (cfH x y)) ∧ ∃ q os', w' = grow (W.drewN q) os' := by
  unfold heldC
  by_cases h : x.1 < y.1
  · have HV : Hid (cfH x y = -1) := if_pos h
    have t1 : decide ((x.1 : Int) < (y.1 : Int)) = true := by simp [h]
    go_enter Try.func39, Try.ntmps39
    go_wp2
    go_ret
    exact ⟨by rw [HV.out]; rfl, 0, _, by rw [alloc_eq_grow, alloc_eq_grow, grow_grow]; rfl⟩
  · have HV : Hid (cfH x y = 1) := if_neg h
    have t1 : decide ((x.1 : Int) < (y.1 : Int)) = false := by simp; omega
    go_enter Try.func39, Try.ntmps39
    go_wp2
    go_ret
    exact ⟨by rw [HV.out]; rfl, 0, _, by rw [alloc_eq_grow, alloc_eq_grow, grow_grow]; rfl⟩
theorem cmpLaysH (blk off size : Nat) (w : World) : CmpLays Try.prog 39 #[] heldC 6 cfH blk off size w := fun _ _ _ _ x y => cmp_any x y _
theorem flatK_at (es : HL) {j i : Nat} {s : Nat × Fd} (hj : es[j]? = some s) (hi : i < 6) : j * 6 + i < (flatK heldC 6 es.toArray).size ∧ (heldC s)[i]? = some (flatK heldC 6 es.toArray)[j * 6 + i]! := by
  obtain ⟨hlt, hs⟩ := List.getElem?_eq_some_iff.1 hj
  have hb : j * 6 + i < es.toArray.size * 6 := by rw [List.size_toArray]; omega
  refine ⟨by rw [size_flatK]; exact hb, ?_⟩
  rw [get_flatK _ _ _ _ hb, show (j * 6 + i) / 6 = j by omega, show (j * 6 + i) % 6 = i by omega]
  have e1 : es.toArray[j]! = s := by rw [getElem!_pos _ j (by rw [List.size_toArray]; exact hlt), List.getElem_toArray, hs]
  rw [e1, List.getElem?_eq_getElem (by rw [held_len]; exact hi), getElem!_pos _ i (by rw [held_len]; exact hi)]
theorem holds_of {w : World} {g : Nat} {es : HL} (hc : ∀ j s, es[j]? = some s → ∀ i u, (heldC s)[i]? = some u → w.cell? ⟨g, j * 6 + i, none⟩ = some u) (hf : ∀ j, j < es.length * 6 → w.frozen? ⟨g, j, none⟩ = false) : HoldsK heldC 6 w g 0 es.toArray := by
  intro t ht
  rw [size_flatK, List.size_toArray] at ht
  obtain ⟨s, hs⟩ : ∃ s, es[t / 6]? = some s := ⟨_, List.getElem?_eq_getElem (by omega)⟩
  obtain ⟨_, h2⟩ := flatK_at es hs (i := t % 6) (by omega)
  have h3 := hc _ _ hs _ _ h2
  rw [show t / 6 * 6 + t % 6 = t by omega] at h3
  rw [Nat.zero_add]
  exact ⟨h3, hf t ht⟩
theorem holds_get {w : World} {g : Nat} {d : Array (Nat × Fd)} (h : HoldsK heldC 6 w g 0 d) : ∀ j s, d.toList[j]? = some s → ∀ i u, (heldC s)[i]? = some u → w.cell? ⟨g, 0 + j * 6 + i, none⟩ = some u := by
  intro j s hj i u hu
  have hi : i < 6 := by have := (List.getElem?_eq_some_iff.1 hu).1; rw [held_len] at this; exact this
  obtain ⟨h1, h2⟩ := flatK_at d.toList hj hi
  rw [Array.toArray_toList] at h1 h2
  have h3 := (h _ h1).1
  rw [hu] at h2
  injection h2 with h2
  rw [Nat.zero_add] at h3 ⊢
  rw [h2]
  exact h3
theorem mod_sortWorld {w : World} {g n : Nat} {d : Array (Nat × Fd)} {os : Array Obj} : Mod (· = g) w (sortWorldK heldC 6 w g 0 n d os) := by
  have h1 : Mod (· = g) w (putRowK heldC 6 (Sort.ahead w n) g 0 d) := by
    refine ⟨rfl, rfl, rfl, ?_, fun k hk hne => ?_⟩
    · show w.heap.size ≤ (w.heap.modify g _).size
      rw [Array.size_modify]; exact Nat.le_refl _
    · show (w.heap.modify g _)[k]? = _
      rw [Array.getElem?_modify, if_neg (fun e => hne e.symm)]
  refine h1.trans ⟨rfl, rfl, rfl, ?_, fun k hk _ => heap_grow_old _ _ hk⟩
  show _ ≤ (_ ++ os).size
  rw [Array.size_append]; omega
theorem sorted_rising {d : Array (Nat × Fd)} (hs : SortedIn (ltOf cfH) 0 d.size d) (hn : d.toList.Pairwise fun p q => p.1 ≠ q.1) : Rising d.toList := by
  unfold Rising
  rw [List.pairwise_iff_getElem] at hn ⊢
  intro i j hi hj hij
  have h1 := hs i j (Nat.zero_le _) hij (by simpa using hj)
  rw [ltH, decide_eq_false_iff_not, getElem!_pos _ j (by simpa using hj), getElem!_pos _ i (by simpa using hi)] at h1
  have h2 := hn i j hi hj hij
  simp only [Array.getElem_toList] at h2 ⊢
  omega
set_option maxHeartbeats 1000000 in
/-- the sort of a row of our own -/
theorem sort_any (es : HL) (W : World) (B g cap : Nat) (h : OwnA W B 6 (.slice (some ⟨g, 0, none⟩) es.length cap) es.length (flatR heldC es)) (hn : es.Pairwise fun p q => p.1 ≠ q.1) (hl : es.length ≤ 1000000) :
    Calls Try.prog 38 #[.slice (some ⟨g, 0, none⟩) es.length cap, .func (.func 39) #[] #[]] W fun e w' =>
      e = .returned (.tuple #[]) ∧ ∃ m : HL, m.Perm es ∧ Rising m ∧ HeldAt w' (B ≤ ·) (.slice (some ⟨g, 0, none⟩) es.length cap) m ∧ Mod (· = g) W w' := by
  have eg : ∀ args w, (callFunc 39 args).run Try.prog w = .ok (.enter 39 args) w := enters_of Try.func39 (by kernel_rfl) rfl
  rcases h.2 with ⟨e, _⟩ | ⟨g', cap', e, hB, hg, hcap, _, hf, hc⟩
  · cases e
  injection e with e1 e2 e3
  injection e1 with e1
  injection e1 with e1
  subst e1 e3
  have hH : HoldsK heldC 6 W g 0 es.toArray := holds_of (fun j s hj i u hu => hc _ u (by
    have hi : i < 6 := by have := (List.getElem?_eq_some_iff.1 hu).1; rw [held_len] at this; exact this
    rw [flatR_get held_len es j s hj i hi]; exact hu)) (fun j hj => hf j (by have := Nat.mul_le_mul_right 6 hcap; omega))
  have hcon := AnyQ.slices_SortFunc Try.sortHeld 6 Try.isAgg69 Try.sizeOf69 heldC held_len held_one cfH swoH 39 #[] g 0 cap es.toArray W eg (cmpLaysH g 0 es.toArray.size W) hH hg (by rw [List.size_toArray]; omega)
  rw [List.size_toArray] at hcon
  refine Calls.mono hcon ?_
  rintro e w' ⟨rfl, d', n, os, hp, hs, rfl⟩
  obtain ⟨hsz0, _, hperm⟩ := hp
  have hsz : d'.size = es.length := by simpa using hsz0
  have hperm2 : d'.toList.Perm es := by
    have e1 : d'.extract 0 es.length = d' := by rw [← hsz]; simp
    have e2 : es.toArray.extract 0 es.length = es.toArray := by rw [← List.size_toArray]; simp
    rw [e1, e2] at hperm
    exact hperm
  have hlen : d'.toList.length = es.length := hperm2.length_eq
  refine ⟨rfl, d'.toList, hperm2, sorted_rising (by rw [hsz]; exact hs) (hperm2.symm.pairwise hn fun {a b} h => h.symm), ?_, mod_sortWorld⟩
  refine .inr ⟨g, 0, cap, by rw [hlen], hB, Nat.lt_of_lt_of_le hg (mod_sortWorld (w := W) (g := g) (n := n) (d := d') (os := os)).size, by rw [hlen]; exact hcap, ?_⟩
  exact holds_get (holdsK_sortWorldK heldC 6 W g 0 n es.toArray d' os hg hH (by rw [hsz, List.size_toArray]))
end Go.Proofs.Ytcadkaedahoefaa
