/- The document's Table: Set. -/
import Derived.Test.YtcadkaedahoefaaRefTab
import Derived.Test.YtcadkaedahoefaaRegionHold
import Derived.Deep.RegionHeldLaw
namespace Go.Proofs.Ytcadkaedahoefaa
open Go.RowKit


theorem OwnA.set {w : World} {base size n g cap : Nat} {xs : List Value} (h : OwnA w base size (.slice (some ⟨g, 0, none⟩) n cap) n xs) (k : Nat) (hk : k < xs.length) (u : Value) :
    OwnA (w.setCell ⟨g, k, none⟩ u) base size (.slice (some ⟨g, 0, none⟩) n cap) n (xs.set k u) := by
  refine ⟨by rw [List.length_set]; exact h.1, ?_⟩
  rcases h.2 with ⟨hn, _⟩ | ⟨g', cap', e, h2, h3, h4, h5, h6, h7⟩
  · injection hn with e1; cases e1
  · injection e with e1 e2 e3
    injection e1 with e1
    injection e1 with e1
    subst e1
    subst e3
    have hm := Mod.set1 w g k u
    have hc : ∀ j, j ≠ k → (w.setCell ⟨g, k, none⟩ u).cell? ⟨g, j, none⟩ = w.cell? ⟨g, j, none⟩ := fun j hj => World.cell?_setCell_other _ _ _ _ (by intro x; injection x with _ x _; exact hj x.symm)
    have hs : (w.setCell ⟨g, k, none⟩ u).cell? ⟨g, k, none⟩ = some u := World.cell?_setCell_same _ _ _ (h7 k _ (List.getElem?_eq_getElem hk))
    refine .inr ⟨g, cap, rfl, h2, Nat.lt_of_lt_of_le h3 hm.size, h4, fun j hj => ?_, fun j hj => ?_, fun j y hy => ?_⟩
    · by_cases e : j = k
      · rw [e, hs]; rfl
      · rw [hc j e]; exact h5 j hj
    · rw [World.frozen?_setCell]; exact h6 j hj
    · by_cases e : j = k
      · subst e
        rw [List.getElem?_set_self hk] at hy
        rw [hs]; exact hy
      · rw [List.getElem?_set_ne (Ne.symm e)] at hy
        rw [hc j e]; exact h7 j y hy
theorem setH_at {l : HL} (h : Rising l) {x j : Nat} {q0 : Fd} (q : Fd) (hj : j < l.length) (hx : l[j] = (x, q0)) : setH l x q = l.set j (x, q) := by
  apply List.ext_getElem?
  intro i
  unfold setH
  rw [List.getElem?_map]
  by_cases hi : i < l.length
  · rw [List.getElem?_eq_getElem hi]
    by_cases e : i = j
    · subst e
      rw [List.getElem?_set_self hi, Option.map_some, hx]
      simp
    · rw [List.getElem?_set_ne (Ne.symm e), List.getElem?_eq_getElem hi, Option.map_some, if_neg]
      intro he
      have hp := List.pairwise_iff_getElem.1 h
      rcases Nat.lt_or_ge i j with a | a
      · have := hp i j hi hj a
        rw [hx] at this
        simp only at this
        omega
      · have := hp j i hj hi (by omega)
        rw [hx] at this
        simp only at this
        omega
  · rw [List.getElem?_eq_none (by omega), List.getElem?_eq_none (by rw [List.length_set]; omega)]
    rfl
theorem flat_set {l : HL} {x j : Nat} {q0 : Fd} (q : Fd) (hj : j < l.length) (hx : l[j] = (x, q0)) :
    flatR heldC (l.set j (x, q)) = (((((flatR heldC l).set (j * 6 + 1) (.int .u64 q.path)).set (j * 6 + 2) (.string q.who)).set (j * 6 + 3) (.bool q.opn)).set (j * 6 + 4) (.int .u8 q.mode)).set (j * 6 + 5) (.int .u64 q.next) := by
  have h1 : l = l.take j ++ (x, q0) :: l.drop (j + 1) := by
    have := List.set_eq_take_append_cons_drop (l := l) (i := j) (a := l[j])
    rw [if_pos hj, List.set_getElem_self] at this
    rw [← hx]; exact this
  have h2 : l.set j (x, q) = l.take j ++ (x, q) :: l.drop (j + 1) := by rw [List.set_eq_take_append_cons_drop, if_pos hj]
  have hlA : (flatR heldC (l.take j)).length = j * 6 := by rw [flatR_length held_len, List.length_take, Nat.min_eq_left (by omega)]
  have h3 : flatR heldC l = flatR heldC (l.take j) ++ (heldC (x, q0) ++ flatR heldC (l.drop (j + 1))) := by
    conv => lhs; rw [h1]
    rw [flatR_append]; rfl
  have h4 : flatR heldC (l.set j (x, q)) = flatR heldC (l.take j) ++ (heldC (x, q) ++ flatR heldC (l.drop (j + 1))) := by
    rw [h2, flatR_append]; rfl
  rw [h3, h4]
  generalize flatR heldC (l.take j) = A at hlA
  rw [List.set_append_right _ _ (by omega), List.set_append_right _ _ (by omega), List.set_append_right _ _ (by omega), List.set_append_right _ _ (by omega), List.set_append_right _ _ (by omega), hlA]
  rw [show j * 6 + 1 - j * 6 = 1 by omega, show j * 6 + 2 - j * 6 = 2 by omega, show j * 6 + 3 - j * 6 = 3 by omega, show j * 6 + 4 - j * 6 = 4 by omega, show j * 6 + 5 - j * 6 = 5 by omega]
  rfl
theorem DocP.set5 {w : World} {F : Nat → Prop} {b g cap : Nat} {l : HL} {most : Int} (h : DocP w F b (.slice (some ⟨g, 0, none⟩) l.length cap) l most) (hr : Rising l) {x j : Nat} {q0 : Fd} (q : Fd) (hj : j < l.length) (hx : l[j] = (x, q0))
    {k1 k2 k3 k4 k5 : Nat} (e1 : k1 = j * 6 + 1) (e2 : k2 = j * 6 + 2) (e3 : k3 = j * 6 + 3) (e4 : k4 = j * 6 + 4) (e5 : k5 = j * 6 + 5) :
    DocAt (((((w.setCell ⟨g, k1, none⟩ (.int .u64 q.path)).setCell ⟨g, k2, none⟩ (.string q.who)).setCell ⟨g, k3, none⟩ (.bool q.opn)).setCell ⟨g, k4, none⟩ (.int .u8 q.mode)).setCell ⟨g, k5, none⟩ (.int .u64 q.next)) F b (setH l x q) most ∧
      Mod F w (((((w.setCell ⟨g, k1, none⟩ (.int .u64 q.path)).setCell ⟨g, k2, none⟩ (.string q.who)).setCell ⟨g, k3, none⟩ (.bool q.opn)).setCell ⟨g, k4, none⟩ (.int .u8 q.mode)).setCell ⟨g, k5, none⟩ (.int .u64 q.next)) := by
  subst e1 e2 e3 e4 e5
  have hm := ((((Mod.set1 w g (j * 6 + 1) (.int .u64 q.path)).trans (Mod.set1 _ g (j * 6 + 2) (.string q.who))).trans (Mod.set1 _ g (j * 6 + 3) (.bool q.opn))).trans (Mod.set1 _ g (j * 6 + 4) (.int .u8 q.mode))).trans (Mod.set1 _ g (j * 6 + 5) (.int .u64 q.next))
  have hg := h.fl g rfl
  have hlen : (flatR heldC l).length = l.length * 6 := flatR_length held_len l
  have ho := ((((h.ol.set (j * 6 + 1) (by omega) (.int .u64 q.path)).set (j * 6 + 2) (by simp only [List.length_set]; omega) (.string q.who)).set (j * 6 + 3) (by simp only [List.length_set]; omega) (.bool q.opn)).set (j * 6 + 4) (by simp only [List.length_set]; omega) (.int .u8 q.mode)).set (j * 6 + 5) (by simp only [List.length_set]; omega) (.int .u64 q.next)
  rw [← flat_set q hj hx, ← setH_at hr q hj hx] at ho
  refine ⟨⟨_, (hm.block b (lt_of h.obj) (Ne.symm hg.2)).trans h.obj, ?_, h.fl, h.fb, fun k hk => Nat.lt_of_lt_of_le (h.lt k hk) hm.size⟩, hm.mono fun k _ e => by subst e; exact hg.1⟩
  rw [setH_length]
  exact ho
set_option maxHeartbeats 1000000 in
set_option maxRecDepth 100000 in
theorem rset_any (w : World) (F : Nat → Prop) (b x : Nat) (q : Fd) (l : HL) (most : Int) (h : DocAt w F b l most) (hr : Rising l) (hL : l.length ≤ 1000000) :
    Calls Try.prog 23 #[.pointer (some ⟨b, 0, none⟩), .int .u32 x, q.v] w fun e w' => e = .returned (.int .i64 (putS l x q).2) ∧ DocAt w' F b (putS l x q).1 most ∧ Mod F w w' := by
  obtain ⟨W1, hW1⟩ : ∃ W1, w.alloc (.cells #[.int .u64 q.path, .string q.who, .bool q.opn, .int .u8 q.mode, .int .u64 q.next] 59) = W1 := ⟨_, rfl⟩
  have hB : W1.heap[w.heap.size]? = some (.cells #[.int .u64 q.path, .string q.who, .bool q.opn, .int .u8 q.mode, .int .u64 q.next] 59 (0, 0)) := by subst hW1; exact new_at _ _
  have m1 : Mod (fun _ => False) w W1 := by subst hW1; exact (Mod.refl _ _).alloc _
  obtain ⟨v, h⟩ := h
  have h1 := h.mod m1 (fun _ x => x.elim)
  obtain ⟨va, vc, rfl, hvc, hvx⟩ := h1.held.form
  have c0 : W1.cell? ⟨b, 0, none⟩ = some (.slice va l.length vc) := (cell_of h1.obj 0).trans rfl
  have hA := dat_any W1 b x _ l _ h1.held hL c0
  have b0 : (W1).cell? ⟨w.heap.size, 0, none⟩ = some (.int .u64 q.path) := (cell_of hB 0).trans rfl
  have b1 : (W1).cell? ⟨w.heap.size, 1, none⟩ = some (.string q.who) := (cell_of hB 1).trans rfl
  have b2 : (W1).cell? ⟨w.heap.size, 2, none⟩ = some (.bool q.opn) := (cell_of hB 2).trans rfl
  have b3 : (W1).cell? ⟨w.heap.size, 3, none⟩ = some (.int .u8 q.mode) := (cell_of hB 3).trans rfl
  have b4 : (W1).cell? ⟨w.heap.size, 4, none⟩ = some (.int .u64 q.next) := (cell_of hB 4).trans rfl
  have HLt := Lib.hid h.lt
  have H1 := Lib.hid h1
  have M1 : Hid (Mod F w W1) := m1.mono fun _ _ x => x.elim
  clear h h1 m1 hB
  cases hl : lookH l x with
  | none =>
    have HV : Hid (putS l x q = (l, 5)) := by show _ = _; unfold putS; rw [hl]
    have HL := Lib.hid hl
    clear hl hvx
    unfold Fd.v
    go_enter Try.func23, Try.ntmps23
    go_wp2_with fail
    refine hA.mono ?_
    rintro e w2 ⟨i, rfl, ha, rfl⟩
    obtain rfl := ha.no HL.out
    clear hA
    go_wp2
    go_ret
    exact ⟨by rw [HV.out]; rfl, by rw [HV.out]; exact ⟨_, H1.out⟩, M1.out⟩
  | some q0 =>
    have HV : Hid (putS l x q = (setH l x q, 0)) := by show _ = _; unfold putS; rw [hl]
    have HL := Lib.hid hl
    clear hl
    unfold Fd.v
    go_enter Try.func23, Try.ntmps23
    go_wp2_with fail
    refine hA.mono ?_
    rintro e w2 ⟨i, rfl, ha, rfl⟩
    obtain ⟨j, rfl, hj, hx⟩ := ha.yes hr HL.out
    have HX := Lib.hid hx
    obtain ⟨g, rfl⟩ : ∃ g, va = some ⟨g, 0, none⟩ := by
      rcases H1.out.ol.2 with ⟨_, e0⟩ | ⟨g, cap, e, _⟩
      · omega
      · injection e with e1
        exact ⟨g, e1⟩
    obtain ⟨g', off', e0, _, hg, hc⟩ := hvx j l[j] (List.getElem?_eq_getElem hj)
    injection e0 with e0
    injection e0 with e1 e2
    subst e1
    subst e2
    rw [hx] at hc
    have d1 := hc 1 _ rfl
    have d2 := hc 2 _ rfl
    have d3 := hc 3 _ rfl
    have d4 := hc 4 _ rfl
    have d5 := hc 5 _ rfl
    rw [Nat.zero_add] at d1 d2 d3 d4 d5
    have hf : ∀ k, k < vc * 6 → w2.frozen? ⟨g, k, none⟩ = false := fun k hk => by
      rcases H1.out.ol.2 with ⟨e, _⟩ | ⟨g', cap, e, _, _, _, _, h6, _⟩
      · injection e with e; cases e
      · injection e with e1 e2 e3
        injection e1 with e1
        injection e1 with e1
        subst e1 e3
        exact h6 k hk
    have f1 := hf (j * 6 + 1) (by omega)
    have f2 := hf (j * 6 + 2) (by omega)
    have f3 := hf (j * 6 + 3) (by omega)
    have f4 := hf (j * 6 + 4) (by omega)
    have f5 := hf (j * 6 + 5) (by omega)
    have j1 : (0 : Int) ≤ (j : Int) := by omega
    have j2 : (j : Int) < (l.length : Int) := by omega
    have j3 : (l.length : Int) ≤ (vc : Int) := by omega
    have hgn := H1.out.fl g rfl
    have hglt := HLt.out g hgn.1
    have hgb := hgn.2
    have hS0 : (w2.cell? ⟨b, 0, none⟩ = some (.slice (some ⟨g, 0, none⟩) l.length vc) ∧ w2.cell? ⟨w.heap.size, 0, none⟩ = some (.int .u64 q.path) ∧ w2.cell? ⟨w.heap.size, 1, none⟩ = some (.string q.who) ∧ w2.cell? ⟨w.heap.size, 2, none⟩ = some (.bool q.opn) ∧ w2.cell? ⟨w.heap.size, 3, none⟩ = some (.int .u8 q.mode) ∧ w2.cell? ⟨w.heap.size, 4, none⟩ = some (.int .u64 q.next)) := ⟨c0, b0, b1, b2, b3, b4⟩
    have hSd : ∀ (U : World), (U.cell? ⟨b, 0, none⟩ = some (.slice (some ⟨g, 0, none⟩) l.length vc) ∧ U.cell? ⟨w.heap.size, 0, none⟩ = some (.int .u64 q.path) ∧ U.cell? ⟨w.heap.size, 1, none⟩ = some (.string q.who) ∧ U.cell? ⟨w.heap.size, 2, none⟩ = some (.bool q.opn) ∧ U.cell? ⟨w.heap.size, 3, none⟩ = some (.int .u8 q.mode) ∧ U.cell? ⟨w.heap.size, 4, none⟩ = some (.int .u64 q.next)) → (U.drew.cell? ⟨b, 0, none⟩ = some (.slice (some ⟨g, 0, none⟩) l.length vc) ∧ U.drew.cell? ⟨w.heap.size, 0, none⟩ = some (.int .u64 q.path) ∧ U.drew.cell? ⟨w.heap.size, 1, none⟩ = some (.string q.who) ∧ U.drew.cell? ⟨w.heap.size, 2, none⟩ = some (.bool q.opn) ∧ U.drew.cell? ⟨w.heap.size, 3, none⟩ = some (.int .u8 q.mode) ∧ U.drew.cell? ⟨w.heap.size, 4, none⟩ = some (.int .u64 q.next)) := fun U h => h
    have hSk : ∀ (U : World) (i : Nat) (v : Value), (U.cell? ⟨b, 0, none⟩ = some (.slice (some ⟨g, 0, none⟩) l.length vc) ∧ U.cell? ⟨w.heap.size, 0, none⟩ = some (.int .u64 q.path) ∧ U.cell? ⟨w.heap.size, 1, none⟩ = some (.string q.who) ∧ U.cell? ⟨w.heap.size, 2, none⟩ = some (.bool q.opn) ∧ U.cell? ⟨w.heap.size, 3, none⟩ = some (.int .u8 q.mode) ∧ U.cell? ⟨w.heap.size, 4, none⟩ = some (.int .u64 q.next)) → ((U.setCell ⟨g, i, none⟩ v).cell? ⟨b, 0, none⟩ = some (.slice (some ⟨g, 0, none⟩) l.length vc) ∧ (U.setCell ⟨g, i, none⟩ v).cell? ⟨w.heap.size, 0, none⟩ = some (.int .u64 q.path) ∧ (U.setCell ⟨g, i, none⟩ v).cell? ⟨w.heap.size, 1, none⟩ = some (.string q.who) ∧ (U.setCell ⟨g, i, none⟩ v).cell? ⟨w.heap.size, 2, none⟩ = some (.bool q.opn) ∧ (U.setCell ⟨g, i, none⟩ v).cell? ⟨w.heap.size, 3, none⟩ = some (.int .u8 q.mode) ∧ (U.setCell ⟨g, i, none⟩ v).cell? ⟨w.heap.size, 4, none⟩ = some (.int .u64 q.next)) := by
      intro U i v
      have h1 : (U.setCell ⟨g, i, none⟩ v).heap[b]? = U.heap[b]? := Below.heap_setCell _ _ _ _ (Ne.symm hgb)
      have h2 : (U.setCell ⟨g, i, none⟩ v).heap[w.heap.size]? = U.heap[w.heap.size]? := Below.heap_setCell _ _ _ _ (by show w.heap.size ≠ g; omega)
      have c1 : ∀ j, (U.setCell ⟨g, i, none⟩ v).cell? ⟨b, j, none⟩ = U.cell? ⟨b, j, none⟩ := fun j => World.cell?_of_block (a := ⟨b, j, none⟩) h1
      have c2 : ∀ j, (U.setCell ⟨g, i, none⟩ v).cell? ⟨w.heap.size, j, none⟩ = U.cell? ⟨w.heap.size, j, none⟩ := fun j => World.cell?_of_block (a := ⟨w.heap.size, j, none⟩) h2
      simp only [c1, c2]
      exact fun h => h
    have ff1 : w2.drew.frozen? ⟨g, j * 6 + 1, none⟩ = false := f1
    have ff2 : w2.drew.frozen? ⟨g, j * 6 + 2, none⟩ = false := f2
    have ff3 : w2.drew.frozen? ⟨g, j * 6 + 3, none⟩ = false := f3
    have ff4 : w2.drew.frozen? ⟨g, j * 6 + 4, none⟩ = false := f4
    have ff5 : w2.drew.frozen? ⟨g, j * 6 + 5, none⟩ = false := f5
    have dd1 : w2.drew.cell? ⟨g, j * 6 + 1, none⟩ = some (.int .u64 q0.path) := d1
    have dd2 : w2.drew.cell? ⟨g, j * 6 + 2, none⟩ = some (.string q0.who) := d2
    have dd3 : w2.drew.cell? ⟨g, j * 6 + 3, none⟩ = some (.bool q0.opn) := d3
    have dd4 : w2.drew.cell? ⟨g, j * 6 + 4, none⟩ = some (.int .u8 q0.mode) := d4
    have dd5 : w2.drew.cell? ⟨g, j * 6 + 5, none⟩ = some (.int .u64 q0.next) := d5
    clear hA hx hc ha hvx hf hgn
    go_wp2
    go_region_held_law (fun w' => (w'.cell? ⟨b, 0, none⟩ = some (.slice (some ⟨g, 0, none⟩) l.length vc) ∧ w'.cell? ⟨w.heap.size, 0, none⟩ = some (.int .u64 q.path) ∧ w'.cell? ⟨w.heap.size, 1, none⟩ = some (.string q.who) ∧ w'.cell? ⟨w.heap.size, 2, none⟩ = some (.bool q.opn) ∧ w'.cell? ⟨w.heap.size, 3, none⟩ = some (.int .u8 q.mode) ∧ w'.cell? ⟨w.heap.size, 4, none⟩ = some (.int .u64 q.next))) (first | with_reducible exact hS0 | ((with_reducible refine hSd _ ?_); with_reducible exact hS0) | ((with_reducible refine hSd _ ?_); (iterate 5 (with_reducible refine hSk _ _ _ ?_)); with_reducible exact hS0)) (fail)
    go_wp2
    go_ret
    have hz := DocP.set5 H1.out hr q hj HX.out (k1 := j * 6 + 1) (k2 := j * 6 + 1 + 1) (k3 := j * 6 + 1 + 2) (k4 := j * 6 + 1 + 3) (k5 := j * 6 + 1 + 4) rfl rfl rfl rfl rfl
    exact ⟨by rw [HV.out]; rfl, by rw [HV.out]; exact hz.1.mod (Mod.refl (fun _ => False) _).drew (fun _ x => x.elim), (M1.out.trans hz.2).drew⟩
end Go.Proofs.Ytcadkaedahoefaa
