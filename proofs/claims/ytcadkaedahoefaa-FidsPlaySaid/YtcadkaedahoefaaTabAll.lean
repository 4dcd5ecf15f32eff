/- Package fids's Table: All. -/
import Derived.Test.YtcadkaedahoefaaTab
import Derived.Test.YtcadkaedahoefaaTabSort
import Derived.Maps.RangeWalk
namespace Go.Proofs.Ytcadkaedahoefaa
open Go.RowKit

theorem info_held : (Try.prog.info? 69).map (fun i => (i.zero, i.size, i.bytes)) = some (some (.agg #[.int .u32 0, .int .u64 0, .string { data := #[] }, .bool false, .int .u8 0, .int .u64 0]), 6, 48) := by kernel_rfl
theorem invK32 {key : Value} {kl : Lit} (h : keyOf Try.prog 56 key = some kl) : ∃ x : Nat, key = .int .u32 x ∧ kl = encU32 x ∧ x < 4294967296 := by
  obtain ⟨x, rfl, rfl, hw⟩ := Maps.keyOf_int_inv Try.underlying56 h
  have h2 : (decide ((0 : Int) ≤ x) && decide (x ≤ 4294967295)) = true := hw
  simp at h2
  exact ⟨x.toNat, by rw [Int.toNat_of_nonneg h2.1], by unfold encU32; rw [Int.toNat_of_nonneg h2.1], by omega⟩
theorem grown_of_mod {w w' : World} {row : Option Nat} (h : Mod (fun k => some k = row) w w') : w.grownBy w' row := ⟨h.os, h.tape, h.output, h.size, fun k hk hn => h.block k hk hn⟩
theorem src_held (w : World) (p : Nat × Fd) : Src Try.prog 6 53 (.slice (some ⟨w.heap.size, 0, none⟩) 1 1) 1 (flatR heldC [p]) (w.alloc (.cells (heldC p).toArray 69)) :=
  src_recs Try.underlying53 (by decide) held_len held_one (Q := fun _ => True) (l := [p]) (.inr ⟨w.heap.size, 0, 1, rfl, trivial, by simp, by simp, fun j s hj i u hu => by
    have hj0 : j = 0 := by
      have := (List.getElem?_eq_some_iff.1 hj).1
      simp at this
      exact this
    subst hj0
    simp at hj
    subst hj
    rw [cell_of (new_at _ _)]
    simpa using hu⟩) rfl
/-- what has been met so far -/
def Met (l es : HL) (left : Lit → Bool) : Prop := (es.Pairwise fun p q => p.1 ≠ q.1) ∧ ∀ x q, (x, q) ∈ es ↔ lookH l x = some q ∧ left (encU32 x) = false
theorem sameKey_u32 (x y : Nat) : (encU32 y).sameKey (encU32 x) = decide (y = x) := by
  by_cases h : y = x
  · subst h
    rw [decide_eq_true rfl]
    unfold encU32 Lit.sameKey
    simp
  · rw [decide_eq_false h]
    exact Maps.sameKey_ne fun e => h (encU32_inj _ _ e)
theorem Met.step {l es : HL} {left : Lit → Bool} {x : Nat} {q : Fd} (h : Met l es left) (hl : left (encU32 x) = true) (hx : lookH l x = some q) : Met l (es ++ [(x, q)]) (fun z => left z && !z.sameKey (encU32 x)) := by
  obtain ⟨h1, h2⟩ := h
  refine ⟨List.pairwise_append.2 ⟨h1, List.pairwise_singleton _ _, fun p hp r hr => ?_⟩, fun y r => ?_⟩
  · rw [List.mem_singleton.1 hr]
    intro e
    have := (h2 p.1 p.2).1 hp
    rw [show p.1 = x from e, hl] at this
    cases this.2
  · rw [List.mem_append, List.mem_singleton, h2]
    show _ ↔ lookH l y = some r ∧ (left (encU32 y) && !(encU32 y).sameKey (encU32 x)) = false
    rw [sameKey_u32]
    by_cases hy : y = x
    · subst hy
      simp [hl, hx]
      exact ⟨fun e => e.symm, fun e => e.symm⟩
    · simp [hy]
theorem Met.done {l es : HL} {left : Lit → Bool} (h : Met l es left) (hl : ∀ kl, left kl = false) (hr : Rising l) : ∀ p, p ∈ es ↔ p ∈ l := fun p => by
  rw [show p = (p.1, p.2) from rfl, h.2, lookH_some hr, hl]
  simp
set_option maxHeartbeats 2000000 in
set_option maxRecDepth 100000 in
theorem all_any (w : World) (F : Nat → Prop) (b n : Nat) (l : HL) (most : Int) (h : TabAt w F b n l most) (hn : n ≤ 1000000)
    (hS : l = [] → ∀ W, Calls Try.prog 38 #[.slice none 0 0, .func (.func 39) #[] #[]] W fun e w' => e = .returned (.tuple #[]) ∧ w' = W) :
    Calls Try.prog 26 #[.pointer (some ⟨b, 0, none⟩)] w fun e w' => ∃ v, e = .returned v ∧ HeldAt w' (w.heap.size ≤ ·) v l ∧ Mod (fun _ => False) w w' := by
  obtain ⟨mb, h⟩ := h
  have hobj := h.obj
  have c0 : (w).cell? ⟨b, 0, none⟩ = some (.map (some mb)) := (cell_of hobj 0).trans rfl
  have c1 : (w).cell? ⟨b, 1, none⟩ = some (.int .i64 most) := (cell_of hobj 1).trans rfl
  have hri := h.ri
  obtain ⟨D, ho, hf, hz⟩ := h.map
  have hmb : mb < w.heap.size := h.map.lt
  have HF := Lib.hid hf
  have HR := Lib.hid hri
  have hstart : Met l [] (Maps.has D) := ⟨List.Pairwise.nil, fun x q => by
    rw [(hf x).1]
    unfold fV
    rw [Option.isSome_map]
    constructor
    · intro h; cases h
    · rintro ⟨h1, h2⟩; rw [h1] at h2; cases h2⟩
  have HSt := Lib.hid hstart
  clear h hobj hf hz hri hstart
  go_enter Try.func26, Try.ntmps26
  go_wp2_with (first | (at_range; refine wpList_range_own _ rfl _ 86 rfl 56 59 lawH Try.underlying86 _ mb n D rfl ho ?_; intro w0 hrg0 hg0 hs0) | go_in)
  go_frame
  have m0 : Mod (fun _ => False) w w0 := ⟨hg0.os, hg0.tape, hg0.output, hg0.size, fun k hk _ => hg0.block k hk (by simp)⟩
  clear hs0 hg0 c0
  go_loopw [3] (fun v wr => ∃ (left : Lit → Bool) (cnt : Nat) (es : HL), wr.ranges Try.prog 56 heldR mb w.heap.size n D left cnt ∧ OwnA wr (w.heap.size + 1) 6 v es.length (flatR heldC es) ∧ Hid (Met l es left) ∧ Hid (es.length + cnt ≤ n) ∧ Hid (es = [] → v = .slice none 0 0) ∧ Hid (Mod (fun _ => False) w wr)) (fun _ wr => wr.rangeLeft mb w.heap.size)
  case atStart => exact ⟨_, _, [], hrg0, OwnA.nil _ _ _, HSt, by show _ ≤ _; simpa using ho.size_le, fun _ => rfl, m0⟩
  case round =>
    obtain ⟨left, cnt, es, hrg, hown, HMet, HCnt, HNil, HM⟩ := hrel
    go_wp2_with (at_next; refine wpList_next_ranges _ rfl _ rfl 56 lawH heldR (fun v : Value => v) (fun v : Value => v) (fun key kl hk => ⟨key, rfl⟩) (fun v y hv => ⟨v, rfl⟩) mb w.heap.size n D left cnt rfl hrg ?_ ?_)
    · intro hc0 hl0
      have hdone := HMet.out.done hl0 HR.out
      have hnd := HMet.out.1
      have hlen : es.length ≤ 1000000 := by have := HCnt.out; omega
      clear hrg hrg0 ho HF HSt hc0 hl0 HMet HCnt m0
      by_cases hes : es = []
      · have hl0 : l = [] := by
          cases l with
          | nil => rfl
          | cons a l => exact absurd ((hdone a).2 (List.mem_cons_self ..)) (by rw [hes]; simp)
        have hv := HNil.out hes
        subst hv hl0
        have hSo := hS rfl wr
        clear hS hown hdone hnd HNil hes
        go_wp2_with fail
        refine hSo.mono ?_
        rintro e w5 ⟨rfl, rfl⟩
        go_wp2
        go_ret
        exact ⟨_, rfl, RecsAt.nil _ _, HM.out⟩
      · obtain ⟨g, cap, hv⟩ : ∃ g cap, u3 = .slice (some ⟨g, 0, none⟩) es.length cap := by
          rcases hown.2 with ⟨_, h0⟩ | ⟨g, cap, hv, _⟩
          · exact absurd (List.eq_nil_of_length_eq_zero h0) hes
          · exact ⟨g, cap, hv⟩
        subst hv
        have hgl := (hown.lt g rfl).1
        have hSo := sort_any es wr _ g cap hown hnd hlen
        clear hS hown HNil hes hnd
        go_wp2_with fail
        refine hSo.mono ?_
        rintro e w5 ⟨rfl, m, hp, hrm, hat, hmd⟩
        obtain rfl : m = l := rising_ext hrm HR.out fun p => (hp.mem_iff).trans (hdone p)
        have HA : Hid (HeldAt w5 (w.heap.size ≤ ·) (.slice (some ⟨g, 0, none⟩) es.length cap) m) := hat.imp fun k hk => by omega
        have HM5 : Hid (Mod (fun _ => False) w w5) := HM.out.trans' hmd fun k hk e => by omega
        clear hp hrm hat hmd hdone
        go_wp2
        go_ret
        exact ⟨_, rfl, HA.out, HM5.out⟩
    · intro x c kl yd yp w2 cnt2 hkey hlk hv hat hrg2 hlt hg2 hs2 hen
      obtain ⟨x, rfl, rfl, hx⟩ := invK32 hkey
      obtain ⟨q, hq, rfl⟩ : ∃ q, lookH l x = some q ∧ c = q.v := by
        unfold heldR at hv
        injection hv with hv
        injection hv with hv1 hv2
        have h2 := (HF.out x).2
        cases hl : lookH l x with
        | none =>
          have h3 := h2 (.held .nilFunc)
          unfold fV at h3
          rw [hl, hat, ← hv1] at h3
          have h4 := h2 (.held (.bool true))
          unfold fV at h4
          rw [hl, hat, ← hv1] at h4
          simp only [Option.map_none, DataW.held.injEq] at h3 h4
          rw [h3] at h4
          cases h4
        | some q =>
          have h3 := h2 .nil
          unfold fV at h3
          rw [hl, hat, ← hv1] at h3
          simp only [Option.map_some, DataW.held.injEq] at h3
          exact ⟨q, rfl, h3⟩
      have hMet2 := HMet.out.step hlk hq
      have m2 : Mod (fun k => some k = some w.heap.size) wr w2 := Mod.of_grown hg2
      have hown2 := hown.mod m2 (fun k hk e => by injection e; omega)
      have HM2 : Hid (Mod (fun _ => False) w w2) := HM.out.trans' m2 fun k hk e => by injection e; omega
      have hw2 : w.heap.size < w2.heap.size := hrg2.lt
      obtain ⟨W3, hW3⟩ : ∃ W3, w2.alloc (.cells #[.int .u64 q.path, .string q.who, .bool q.opn, .int .u8 q.mode, .int .u64 q.next] 59) = W3 := ⟨_, rfl⟩
      have hB : W3.heap[w2.heap.size]? = some (.cells #[.int .u64 q.path, .string q.who, .bool q.opn, .int .u8 q.mode, .int .u64 q.next] 59 (0, 0)) := by subst hW3; exact new_at _ _
      have m3 : Mod (fun _ => False) w2 W3 := by subst hW3; exact (Mod.refl _ _).alloc _
      have d0 : W3.cell? ⟨w2.heap.size, 0, none⟩ = some (.int .u64 q.path) := (cell_of hB 0).trans rfl
      have d1 : W3.cell? ⟨w2.heap.size, 1, none⟩ = some (.string q.who) := (cell_of hB 1).trans rfl
      have d2 : W3.cell? ⟨w2.heap.size, 2, none⟩ = some (.bool q.opn) := (cell_of hB 2).trans rfl
      have d3 : W3.cell? ⟨w2.heap.size, 3, none⟩ = some (.int .u8 q.mode) := (cell_of hB 3).trans rfl
      have d4 : W3.cell? ⟨w2.heap.size, 4, none⟩ = some (.int .u64 q.next) := (cell_of hB 4).trans rfl
      have M4 := Lib.hid (m3.alloc (.cells #[.int .u32 x, .int .u64 q.path, .string q.who, .bool q.opn, .int .u8 q.mode, .int .u64 q.next] 69))
      have A1 : Hid (OwnA (W3.alloc (.cells #[.int .u32 x, .int .u64 q.path, .string q.who, .bool q.opn, .int .u8 q.mode, .int .u64 q.next] 69)) (w.heap.size + 1) 6 u3 es.length (flatR heldC es)) := hown2.mod M4.out (fun _ _ x => x)
      have A2 : Hid (Src Try.prog 6 53 (.slice (some ⟨W3.heap.size, 0, none⟩) 1 1) 1 (flatR heldC [(x, q)]) (W3.alloc (.cells #[.int .u32 x, .int .u64 q.path, .string q.who, .bool q.opn, .int .u8 q.mode, .int .u64 q.next] 69))) := src_held W3 (x, q)
      have HC2 : Hid ((es ++ [(x, q)]).length + cnt2 ≤ n) := by show _ ≤ _; rw [List.length_append, List.length_singleton]; have := HCnt.out; omega
      have C1 : Hid ((es.length + 1) * 48 ≤ 140737488355328) := by show _ ≤ _; have := HCnt.out; omega
      have C2 : Hid (es.length + 1 ≤ 9223372036854775807) := by show _ ≤ _; have := HCnt.out; omega
      have C3 : Hid (w.heap.size + 1 ≤ (W3.alloc (.cells #[.int .u32 x, .int .u64 q.path, .string q.who, .bool q.opn, .int .u8 q.mode, .int .u64 q.next] 69)).heap.size) := by show _ ≤ _; rw [World.size_alloc]; have := m3.size; omega
      have HMet2 := Lib.hid hMet2
      have HRg := Lib.hid hrg2
      have HLt := Lib.hid (And.intro hlt hrg.left_eq)
      clear hMet2 hrg2 hown2 m2 m3 hB hs2 hg2 hat hkey hlk hv hrg hrg0 ho HF HSt HMet HCnt m0 hown hS hlt hq
      unfold Fd.v at hen
      go_wp2_with (refine wpl_append rfl (.tmp 18) (.tmp 22) _ _ rfl (w.heap.size + 1) 69 (.agg #[.int .u32 0, .int .u64 0, .string { data := #[] }, .bool false, .int .u8 0, .int .u64 0]) 6 48 Try.underlying53 info_held rfl (by decide) u3 _ _ rfl A1.out _ 1 _ rfl A2.out C1.out C2.out C3.out ?_; intro v' w5 hown' hgrow)
      have hrg5 := (HRg.out.kept (grown_of_mod (row := none) (M4.out.mono fun _ _ x => x.elim)) (by simp) (by simp)).kept (grown_of_mod hgrow) (fun e => by have := (A1.out.lt mb e).1; omega) (fun e => by have := (A1.out.lt _ e).1; omega)
      refine ⟨⟨_, cnt2, es ++ [(x, q)], hrg5, ?_, HMet2, HC2, fun h => by simp at h, A1.out.thenMod (HM2.out.trans M4.out) hgrow (by omega)⟩, by rw [hrg5.left_eq, HLt.out.2]; exact HLt.out.1⟩
      rw [List.length_append, show flatR heldC (es ++ [(x, q)]) = flatR heldC es ++ flatR heldC [(x, q)] from flatR_append ..]
      exact hown'
end Go.Proofs.Ytcadkaedahoefaa
