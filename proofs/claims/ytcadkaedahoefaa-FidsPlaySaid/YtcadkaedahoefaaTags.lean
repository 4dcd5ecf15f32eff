/- Package fids's Tags, as they lie in memory. -/
import Derived.Test.YtcadkaedahoefaaRecs
namespace Go.Proofs.Ytcadkaedahoefaa
open Go.RowKit

structure TS where
  l : List Nat
  w : List (Nat × Nat)
  most : Int
def u16s (l : List Nat) : List Value := l.map fun x : Nat => Value.int .u16 x
def wtC (p : Nat × Nat) : List Value := [.int .u16 p.1, .int .u16 p.2]
def wts (l : List (Nat × Nat)) : List Value := flatR wtC l
theorem u16s_length (l : List Nat) : (u16s l).length = l.length := List.length_map _
theorem u16s_get {l : List Nat} {k : Nat} (h : k < l.length) : (u16s l)[k]? = some (.int .u16 l[k]) := by
  unfold u16s
  rw [List.getElem?_map, List.getElem?_eq_getElem h]; rfl
theorem u16s_append (l m : List Nat) : u16s (l ++ m) = u16s l ++ u16s m := List.map_append
theorem u16s_one (l : List Nat) : ∀ u ∈ u16s l, u.oneCell' = true := by
  intro u hu
  obtain ⟨x, _, rfl⟩ := List.mem_map.1 hu
  rfl
theorem wt_len (p : Nat × Nat) : (wtC p).length = 2 := rfl
theorem wt_one (p : Nat × Nat) : ∀ u ∈ wtC p, u.oneCell' = true := by
  intro u hu
  simp only [wtC, List.mem_cons, List.not_mem_nil, or_false] at hu
  rcases hu with rfl | rfl <;> rfl
theorem wts_append (l m : List (Nat × Nat)) : wts (l ++ m) = wts l ++ wts m := flatR_append l m
theorem wts_length (l : List (Nat × Nat)) : (wts l).length = l.length * 2 := flatR_length wt_len l

structure TagsP (T : TypeId) (w : World) (F : Nat → Prop) (b : Nat) (vl vw : Value) (s : TS) : Prop where
  obj : w.heap[b]? = some (.cells #[vl, vw, .int .i64 s.most] T (0, 0))
  ol : OwnA w 0 1 vl s.l.length (u16s s.l)
  ow : OwnA w 0 2 vw s.w.length (wts s.w)
  fl : ∀ k, some k = vl.ownBlock → F k ∧ k ≠ b
  fw : ∀ k, some k = vw.ownBlock → F k ∧ k ≠ b
  lw : ∀ k, some k = vl.ownBlock → some k ≠ vw.ownBlock
  fb : F b
  lt : ∀ k, F k → k < w.heap.size
def TagsAt (T : TypeId) (w : World) (F : Nat → Prop) (b : Nat) (s : TS) : Prop := ∃ vl vw, TagsP T w F b vl vw s
/-- what a footprint may take besides: what is new -/
def Grows (w : World) (F F' : Nat → Prop) : Prop := ∀ k, F' k → F k ∨ w.heap.size ≤ k
theorem Grows.refl (w : World) (F : Nat → Prop) : Grows w F F := fun _ h => Or.inl h
theorem Grows.trans {w w' : World} {F F' F'' : Nat → Prop} (h : Grows w F F') (g : Grows w' F' F'') (hs : w.heap.size ≤ w'.heap.size) : Grows w F F'' := fun k hk => by
  rcases g k hk with h1 | h1
  · exact h k h1
  · exact Or.inr (by omega)
theorem Grows.apart {w : World} {F F' G : Nat → Prop} (h : Grows w F F') (hd : ∀ k, F k → ¬ G k) (hG : ∀ k, G k → k < w.heap.size) : ∀ k, F' k → ¬ G k := fun k hk hg => by
  rcases h k hk with h1 | h1
  · exact hd k h1 hg
  · have := hG k hg; omega
theorem Grows.above {w0 w : World} {F F' : Nat → Prop} (h : Grows w F F') (hF : ∀ k, F k → w0.heap.size ≤ k) (hs : w0.heap.size ≤ w.heap.size) : ∀ k, F' k → w0.heap.size ≤ k := fun k hk => by
  rcases h k hk with h1 | h1
  · exact hF k h1
  · omega
theorem TagsP.mod {T : TypeId} {w w' : World} {F S : Nat → Prop} {b : Nat} {vl vw : Value} {s : TS} (h : TagsP T w F b vl vw s) (hm : Mod S w w') (hs : ∀ k, S k → ¬ F k) : TagsP T w' F b vl vw s where
  obj := (hm.block b (lt_of h.obj) (fun x => hs b x h.fb)).trans h.obj
  ol := h.ol.modB hm fun k hk x => hs k x (h.fl k hk).1
  ow := h.ow.modB hm fun k hk x => hs k x (h.fw k hk).1
  fl := h.fl
  fw := h.fw
  lw := h.lw
  fb := h.fb
  lt := fun k hk => Nat.lt_of_lt_of_le (h.lt k hk) hm.size
theorem TagsAt.mod {T : TypeId} {w w' : World} {F S : Nat → Prop} {b : Nat} {s : TS} (h : TagsAt T w F b s) (hm : Mod S w w') (hs : ∀ k, S k → ¬ F k) : TagsAt T w' F b s := by
  obtain ⟨vl, vw, h⟩ := h
  exact ⟨vl, vw, h.mod hm hs⟩
theorem TagsAt.lt {T : TypeId} {w : World} {F : Nat → Prop} {b : Nat} {s : TS} (h : TagsAt T w F b s) : ∀ k, F k → k < w.heap.size := by
  obtain ⟨vl, vw, h⟩ := h
  exact h.lt
/-- another list is laid in the first field -/
theorem TagsP.setL {T : TypeId} {w w1 : World} {F : Nat → Prop} {b : Nat} {vl vw v' : Value} {s : TS} {l' : List Nat} (h : TagsP T w F b vl vw s) (hm : Mod (fun k => some k = vl.ownBlock) w w1) (ho : OwnA w1 0 1 v' l'.length (u16s l'))
    (hb : ∀ k, some k = v'.ownBlock → some k = vl.ownBlock ∨ w.heap.size ≤ k) :
    ∃ F', TagsP T (w1.setCell ⟨b, 0, none⟩ v') F' b v' vw ⟨l', s.w, s.most⟩ ∧ Mod F w (w1.setCell ⟨b, 0, none⟩ v') ∧ Grows w F F' := by
  have hbl := lt_of h.obj
  have h1 : w1.heap[b]? = some (.cells #[vl, vw, .int .i64 s.most] T (0, 0)) := (hm.block b hbl fun x => (h.fl b x).2 rfl).trans h.obj
  have hw1 : OwnA w1 0 2 vw s.w.length (wts s.w) := h.ow.modB hm fun k hk x => h.lw k x hk
  have hs : Mod (· = b) w1 (w1.setCell ⟨b, 0, none⟩ v') := Mod.set1 _ _ _ _
  have hv : ∀ k, some k = v'.ownBlock → k ≠ b := fun k hk e => by
    rcases hb k hk with h2 | h2
    · exact (h.fl k h2).2 e
    · omega
  refine ⟨fun k => F k ∨ some k = v'.ownBlock, ⟨heap_set h1 0 v', ho.modB hs fun k hk e => hv k hk e, hw1.modB hs fun k hk e => (h.fw k hk).2 e, fun k hk => ⟨Or.inr hk, hv k hk⟩, fun k hk => ⟨Or.inl (h.fw k hk).1, (h.fw k hk).2⟩, fun k hk x => ?_, Or.inl h.fb, fun k hk => ?_⟩, ?_, fun k hk => ?_⟩
  · rcases hb k hk with h2 | h2
    · exact h.lw k h2 x
    · have := h.lt k (h.fw k x).1; omega
  · rcases hk with hk | hk
    · exact Nat.lt_of_lt_of_le (h.lt k hk) (Nat.le_trans hm.size hs.size)
    · exact Nat.lt_of_lt_of_le (ho.lt k hk).2 hs.size
  · exact (hm.mono fun k _ hk => (h.fl k hk).1).trans' hs fun k _ e => by subst e; exact h.fb
  · rcases hk with hk | hk
    · exact Or.inl hk
    · rcases hb k hk with h2 | h2
      · exact Or.inl (h.fl k h2).1
      · exact Or.inr h2
/-- other waits are laid in the second field -/
theorem TagsP.setW {T : TypeId} {w w1 : World} {F : Nat → Prop} {b : Nat} {vl vw v' : Value} {s : TS} {l' : List (Nat × Nat)} (h : TagsP T w F b vl vw s) (hm : Mod (fun k => some k = vw.ownBlock) w w1) (ho : OwnA w1 0 2 v' l'.length (wts l'))
    (hb : ∀ k, some k = v'.ownBlock → some k = vw.ownBlock ∨ w.heap.size ≤ k) :
    ∃ F', TagsP T (w1.setCell ⟨b, 1, none⟩ v') F' b vl v' ⟨s.l, l', s.most⟩ ∧ Mod F w (w1.setCell ⟨b, 1, none⟩ v') ∧ Grows w F F' := by
  have hbl := lt_of h.obj
  have h1 : w1.heap[b]? = some (.cells #[vl, vw, .int .i64 s.most] T (0, 0)) := (hm.block b hbl fun x => (h.fw b x).2 rfl).trans h.obj
  have hl1 : OwnA w1 0 1 vl s.l.length (u16s s.l) := h.ol.modB hm fun k hk x => h.lw k hk x
  have hs : Mod (· = b) w1 (w1.setCell ⟨b, 1, none⟩ v') := Mod.set1 _ _ _ _
  have hv : ∀ k, some k = v'.ownBlock → k ≠ b := fun k hk e => by
    rcases hb k hk with h2 | h2
    · exact (h.fw k h2).2 e
    · omega
  refine ⟨fun k => F k ∨ some k = v'.ownBlock, ⟨heap_set h1 1 v', hl1.modB hs fun k hk e => (h.fl k hk).2 e, ho.modB hs fun k hk e => hv k hk e, fun k hk => ⟨Or.inl (h.fl k hk).1, (h.fl k hk).2⟩, fun k hk => ⟨Or.inr hk, hv k hk⟩, fun k hk x => ?_, Or.inl h.fb, fun k hk => ?_⟩, ?_, fun k hk => ?_⟩
  · rcases hb k x with h2 | h2
    · exact h.lw k hk h2
    · have := h.lt k (h.fl k hk).1; omega
  · rcases hk with hk | hk
    · exact Nat.lt_of_lt_of_le (h.lt k hk) (Nat.le_trans hm.size hs.size)
    · exact Nat.lt_of_lt_of_le (ho.lt k hk).2 hs.size
  · exact (hm.mono fun k _ hk => (h.fw k hk).1).trans' hs fun k _ e => by subst e; exact h.fb
  · rcases hk with hk | hk
    · exact Or.inl hk
    · rcases hb k hk with h2 | h2
      · exact Or.inl (h.fw k h2).1
      · exact Or.inr h2
theorem TagsP.made {T : TypeId} (w : World) (most : Int) : TagsP T (w.alloc (.cells #[.slice none 0 0, .slice none 0 0, .int .i64 most] T)) (· = w.heap.size) w.heap.size (.slice none 0 0) (.slice none 0 0) ⟨[], [], most⟩ where
  obj := new_at _ _
  ol := OwnA.nil _ _ _
  ow := OwnA.nil _ _ _
  fl := fun k hk => by simp [Value.ownBlock] at hk
  fw := fun k hk => by simp [Value.ownBlock] at hk
  lw := fun k hk => by simp [Value.ownBlock] at hk
  fb := rfl
  lt := fun k hk => by subst hk; simp

def inL (L : List Nat) (x : Nat) : Bool := decide (x ∈ L)
theorem inL_true {L : List Nat} {x : Nat} : inL L x = true ↔ x ∈ L := by unfold inL; exact decide_eq_true_iff
theorem inL_false {L : List Nat} {x : Nat} : inL L x = false ↔ x ∉ L := by unfold inL; exact decide_eq_false_iff_not
set_option maxHeartbeats 1000000 in
set_option maxRecDepth 100000 in
theorem index_any (v : Value) (L : List Nat) (x : Nat) (P : Nat → Prop) (w : World) (h : SlAt w P v (u16s L)) (hL : L.length ≤ 140737488355328) :
    Calls Try.prog 40 #[v, .int .u16 x] w fun e w' => ∃ i : Int, e = .returned (.int .i64 i) ∧ decide (0 ≤ i) = inL L x ∧ w' = w := by
  obtain ⟨va, vc, rfl, hvc, hvx⟩ := h.form
  clear h
  rw [u16s_length] at hvc ⊢
  go_enter Try.func40, Try.ntmps40
  go_wp2
  go_loop [4, 8] (fun r i => ∃ j : Nat, j ≤ L.length ∧ r = .int .i64 0 ∧ i = .int .i64 j ∧ Hid (∀ y ∈ L.take j, y ≠ x)) (fun _ i => L.length - (intOf i).toNat)
  case atStart => exact ⟨0, by omega, rfl, rfl, fun y hy => (by simp at hy)⟩
  case round =>
    obtain ⟨j, hj, rfl, rfl, HA⟩ := hrel
    by_cases hjl : j < L.length
    · obtain ⟨g, off, rfl, _, hg, hc⟩ := hvx j _ (u16s_get hjl)
      have t5 : decide ((j : Int) < (L.length : Int)) = true := by simp; omega
      have j1 : (0 : Int) ≤ (j : Int) := by omega
      have j2 : (j : Int) < (L.length : Int) := by omega
      have j3 : (L.length : Int) ≤ (vc : Int) := by omega
      have hstep : L.take (j + 1) = L.take j ++ [L[j]] := List.take_succ_eq_append_getElem hjl
      have hmem : L[j] ∈ L := List.getElem_mem hjl
      generalize L[j] = y at *
      clear hvx
      by_cases hxy : x = y
      · subst hxy
        have u1 : ((x : Int) == (x : Int)) = true := by simp
        have HR : Hid (inL L x = true) := inL_true.2 hmem
        clear hmem hstep
        go_wp2
        go_ret
        exact ⟨j, rfl, by rw [HR.out]; simp, rfl⟩
      · have u1 : ((x : Int) == (y : Int)) = false := by simp; omega
        have HA2 : Hid (∀ z ∈ L.take (j + 1), z ≠ x) := by
          rw [hstep]
          intro z hz
          rcases List.mem_append.1 hz with h | h
          · exact HA.out z h
          · rw [List.mem_singleton.1 h]; exact fun e => hxy e.symm
        clear hmem hstep hxy
        go_wp2
        go_round
        case rel => exact ⟨j + 1, hjl, rfl, by go_num, HA2⟩
        case measure => simp [intOf]; omega
    · obtain rfl : j = L.length := by omega
      have t5 : decide ((L.length : Int) < (L.length : Int)) = false := by simp
      have hHA := HA.out
      rw [List.take_length] at hHA
      have HR : Hid (inL L x = false) := inL_false.2 fun h => hHA x h rfl
      clear hvx hHA
      go_wp2
      go_ret
      exact ⟨-1, rfl, by rw [HR.out]; rfl, rfl⟩
theorem contains_any (v : Value) (L : List Nat) (x : Nat) (P : Nat → Prop) (w : World) (h : SlAt w P v (u16s L)) (hL : L.length ≤ 140737488355328) :
    Calls Try.prog 30 #[v, .int .u16 x] w fun e w' => e = .returned (.bool (inL L x)) ∧ w' = w := by
  go_enter Try.func30, Try.ntmps30
  go_wp2_with fail
  refine (index_any v L x P w h hL).mono ?_
  rintro e w1 ⟨i, rfl, hi, rfl⟩
  have hi := Lib.hid hi
  go_wp2
  go_ret
  exact ⟨by rw [← hi.out]; rfl, rfl⟩
end Go.Proofs.Ytcadkaedahoefaa
