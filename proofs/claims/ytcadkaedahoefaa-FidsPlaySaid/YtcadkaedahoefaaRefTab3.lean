/- The document's Table: Drop. -/
import Derived.Test.YtcadkaedahoefaaRefTab2
import Derived.Deep.DeepCutAuto
namespace Go.Proofs.Ytcadkaedahoefaa
open Go.RowKit


theorem RecsAt.take {α : Type} {cs : α → List Value} {sz : Nat} {w : World} {P : Nat → Prop} {a : Option Addr} {n c k : Nat} {l : List α} (h : RecsAt cs sz w P (.slice a n c) l) (hk : k ≤ l.length) : RecsAt cs sz w P (.slice a k c) (l.take k) := by
  rcases h with ⟨rfl, a', c', h⟩ | ⟨g, off, cap, h1, h2, h3, h4, h5⟩
  · injection h with e1 e2 e3
    obtain rfl : k = 0 := by simpa using hk
    exact .inl ⟨rfl, a, c, rfl⟩
  · injection h1 with e1 e2 e3
    exact .inr ⟨g, off, c, by rw [e1, List.length_take, Nat.min_eq_left hk], h2, h3, by rw [List.length_take]; omega, fun j s hj => h5 j s (by
      rw [List.getElem?_take] at hj
      split at hj
      · exact hj
      · cases hj)⟩
theorem RecsAt.drop {α : Type} {cs : α → List Value} {sz : Nat} {w : World} {P : Nat → Prop} {g off n c : Nat} {l : List α} (k : Nat) (h : RecsAt cs sz w P (.slice (some ⟨g, off, none⟩) n c) l) (hk : k ≤ l.length) : RecsAt cs sz w P (.slice (some ⟨g, off + k * sz, none⟩) (n - k) (c - k)) (l.drop k) := by
  rcases h with ⟨rfl, a', c', h⟩ | ⟨g', off', cap, h1, h2, h3, h4, h5⟩
  · injection h with e1 e2 e3
    obtain rfl : k = 0 := by simpa using hk
    exact .inl ⟨rfl, some ⟨g, off + 0 * sz, none⟩, c, by rw [e2]; rfl⟩
  · injection h1 with e1 e2 e3
    injection e1 with e1
    injection e1 with e1 e4
    subst e1 e4
    exact .inr ⟨g, off + k * sz, c - k, by rw [List.length_drop, e2], h2, h3, by rw [List.length_drop]; omega, fun j s hj i u hu => by
      rw [List.getElem?_drop] at hj
      have := h5 _ s hj i u hu
      rw [show off + k * sz + j * sz + i = off + (k + j) * sz + i by rw [Nat.add_mul]; omega]
      exact this⟩
theorem DocP.setL {w w1 : World} {F : Nat → Prop} {b : Nat} {v v' : Value} {l l' : HL} {most : Int} (h : DocP w F b v l most) (hm : Mod (fun _ => False) w w1) (ho : OwnA w1 0 6 v' l'.length (flatR heldC l')) (hb : ∀ k, some k = v'.ownBlock → w.heap.size ≤ k) :
    ∃ F', DocP (w1.setCell ⟨b, 0, none⟩ v') F' b v' l' most ∧ Mod F w (w1.setCell ⟨b, 0, none⟩ v') ∧ Grows w F F' := by
  have hbl := lt_of h.obj
  have h1 : w1.heap[b]? = some (.cells #[v, .int .i64 most] 55 (0, 0)) := (hm.block b hbl fun x => x).trans h.obj
  have hs : Mod (· = b) w1 (w1.setCell ⟨b, 0, none⟩ v') := Mod.set1 _ _ _ _
  have hv : ∀ k, some k = v'.ownBlock → k ≠ b := fun k hk e => by have := hb k hk; omega
  refine ⟨fun k => F k ∨ some k = v'.ownBlock, ⟨heap_set h1 0 v', ho.modB hs fun k hk e => hv k hk e, fun k hk => ⟨Or.inr hk, hv k hk⟩, Or.inl h.fb, fun k hk => ?_⟩, ?_, fun k hk => ?_⟩
  · rcases hk with hk | hk
    · have := h.lt k hk; have := hm.size; have := hs.size; omega
    · have := (ho.lt k hk).2; have := hs.size; omega
  · exact (hm.mono fun _ _ x => x.elim).trans (hs.mono fun k _ e => by subst e; exact h.fb)
  · exact hk.imp id fun x => hb k x
theorem delH_at {l : HL} (h : Rising l) {x j : Nat} {q0 : Fd} (hj : j < l.length) (hx : l[j] = (x, q0)) : delH l x = l.take j ++ l.drop (j + 1) := by
  have h1 : l = l.take j ++ (x, q0) :: l.drop (j + 1) := by
    have := List.set_eq_take_append_cons_drop (l := l) (i := j) (a := l[j])
    rw [if_pos hj, List.set_getElem_self] at this
    rw [← hx]; exact this
  have h2 : Rising (l.take j ++ (x, q0) :: l.drop (j + 1)) := h1 ▸ h
  unfold Rising at h2
  rw [List.pairwise_append, List.pairwise_cons] at h2
  obtain ⟨_, ⟨hB, _⟩, hA⟩ := h2
  unfold delH
  conv => lhs; rw [h1]
  rw [List.filter_append, List.filter_cons, if_neg (by simp)]
  congr 1
  · rw [List.filter_eq_self]
    intro p hp
    have := hA p hp _ (List.mem_cons_self ..)
    exact decide_eq_true (by simp only at this; omega)
  · rw [List.filter_eq_self]
    intro p hp
    have := hB p hp
    exact decide_eq_true (by simp only at this; omega)
set_option maxHeartbeats 2000000 in
set_option maxRecDepth 100000 in
theorem rdrop_any (w : World) (F : Nat → Prop) (b x : Nat) (l : HL) (most : Int) (h : DocAt w F b l most) (hr : Rising l) (hL : l.length ≤ 1000) :
    Calls Try.prog 25 #[.pointer (some ⟨b, 0, none⟩), .int .u32 x] w fun e w' => e = .returned (.tuple #[(getS l x).1.v, .int .i64 (getS l x).2]) ∧ ∃ F', DocAt w' F' b (delH l x) most ∧ Mod F w w' ∧ Grows w F F' := by
  obtain ⟨W1, hW1⟩ : ∃ W1, w.alloc (.cells #[.int .u64 0, .string { data := #[] }, .bool false, .int .u8 0, .int .u64 0] 59) = W1 := ⟨_, rfl⟩
  have m1 : Mod (fun _ => False) w W1 := by subst hW1; exact (Mod.refl _ _).alloc _
  have hr1 : W1.heap[w.heap.size]? = some (.cells #[.int .u64 0, .string { data := #[] }, .bool false, .int .u8 0, .int .u64 0] 59 (0, 0)) := by subst hW1; exact new_at _ _
  obtain ⟨v, h⟩ := h
  have HLt := Lib.hid h.lt
  have h1 := h.mod m1 (fun _ x => x.elim)
  obtain ⟨va, vc, rfl, hvc, hvx⟩ := h1.held.form
  have c0 : W1.cell? ⟨b, 0, none⟩ = some (.slice va l.length vc) := (cell_of h1.obj 0).trans rfl
  have hA := dat_any W1 b x _ l _ h1.held (by omega) c0
  have M1 := Lib.hid m1
  have HR1 := Lib.hid hr1
  have H1 := Lib.hid h1
  clear m1 h h1
  cases hl : lookH l x with
  | none =>
    have HV : Hid (getS l x = (Fd.zero, 5)) := by show _ = _; unfold getS; rw [hl]
    have HD := Lib.hid (delH_none hl)
    have HL := Lib.hid hl
    have r0 : (W1).cell? ⟨w.heap.size, 0, none⟩ = some (.int .u64 0) := (cell_of (hr1) 0).trans rfl
    have rf0 : (W1).frozen? ⟨w.heap.size, 0, none⟩ = false := free_of (hr1) 0
    have r1 : (W1).cell? ⟨w.heap.size, 1, none⟩ = some (.string { data := #[] }) := (cell_of (hr1) 1).trans rfl
    have rf1 : (W1).frozen? ⟨w.heap.size, 1, none⟩ = false := free_of (hr1) 1
    have r2 : (W1).cell? ⟨w.heap.size, 2, none⟩ = some (.bool false) := (cell_of (hr1) 2).trans rfl
    have rf2 : (W1).frozen? ⟨w.heap.size, 2, none⟩ = false := free_of (hr1) 2
    have r3 : (W1).cell? ⟨w.heap.size, 3, none⟩ = some (.int .u8 0) := (cell_of (hr1) 3).trans rfl
    have rf3 : (W1).frozen? ⟨w.heap.size, 3, none⟩ = false := free_of (hr1) 3
    have r4 : (W1).cell? ⟨w.heap.size, 4, none⟩ = some (.int .u64 0) := (cell_of (hr1) 4).trans rfl
    have rf4 : (W1).frozen? ⟨w.heap.size, 4, none⟩ = false := free_of (hr1) 4
    have e0 : W1.setCell ⟨w.heap.size, 0, none⟩ (.int .u64 0) = W1 := setCell_idn hr1 rfl
    have e1 : W1.setCell ⟨w.heap.size, 1, none⟩ (.string { data := #[] }) = W1 := setCell_idn hr1 rfl
    have e2 : W1.setCell ⟨w.heap.size, 2, none⟩ (.bool false) = W1 := setCell_idn hr1 rfl
    have e3 : W1.setCell ⟨w.heap.size, 3, none⟩ (.int .u8 0) = W1 := setCell_idn hr1 rfl
    have e4 : W1.setCell ⟨w.heap.size, 4, none⟩ (.int .u64 0) = W1 := setCell_idn hr1 rfl
    clear hl hr1 hvx
    go_enter Try.func25, Try.ntmps25
    go_wp2_with fail
    refine hA.mono ?_
    rintro e w2 ⟨i, rfl, ha, rfl⟩
    obtain rfl := ha.no HL.out
    clear hA
    go_wp2
    have hz := HR1.out
    have z0 : (w2).cell? ⟨w.heap.size, 0, none⟩ = some (.int .u64 0) := (cell_of (hz) 0).trans rfl
    have z1 : (w2).cell? ⟨w.heap.size, 1, none⟩ = some (.string { data := #[] }) := (cell_of (hz) 1).trans rfl
    have z2 : (w2).cell? ⟨w.heap.size, 2, none⟩ = some (.bool false) := (cell_of (hz) 2).trans rfl
    have z3 : (w2).cell? ⟨w.heap.size, 3, none⟩ = some (.int .u8 0) := (cell_of (hz) 3).trans rfl
    have z4 : (w2).cell? ⟨w.heap.size, 4, none⟩ = some (.int .u64 0) := (cell_of (hz) 4).trans rfl
    refine bodyPost_ret (v := .tuple #[.agg #[.int .u64 0, .string { data := #[] }, .bool false, .int .u8 0, .int .u64 0], .int .i64 5]) ?_ rfl ⟨by rw [HV.out]; rfl, F, by rw [HD.out]; exact ⟨_, H1.out⟩, M1.out.mono fun _ _ x => x.elim, Grows.refl _ _⟩
    simp [results, Try.f25, go_sem, z0, z1, z2, z3, z4]
  | some q0 =>
    have HV : Hid (getS l x = (q0, 0)) := by show _ = _; unfold getS; rw [hl]
    have HL := Lib.hid hl
    clear hl hr1
    go_enter Try.func25, Try.ntmps25
    go_wp2_with fail
    refine hA.mono ?_
    rintro e w2 ⟨i, rfl, ha, rfl⟩
    obtain ⟨j, rfl, hj, hx⟩ := ha.yes hr HL.out
    have HDs := Lib.hid (delH_at hr hj hx)
    obtain ⟨g, rfl⟩ : ∃ g, va = some ⟨g, 0, none⟩ := by
      rcases H1.out.ol.2 with ⟨_, e0⟩ | ⟨g, cap, e, _⟩
      · omega
      · injection e with e1
        exact ⟨g, e1⟩
    obtain ⟨g', off', e0, _, hg, hc⟩ := hvx j l[j] (List.getElem?_eq_getElem hj)
    injection e0 with e0
    injection e0 with e1 e2
    subst e1
    subst e2
    rw [hx] at hc
    have d1 := hc 1 _ rfl
    have d2 := hc 2 _ rfl
    have d3 := hc 3 _ rfl
    have d4 := hc 4 _ rfl
    have d5 := hc 5 _ rfl
    rw [Nat.zero_add] at d1 d2 d3 d4 d5
    obtain ⟨W3, hW3⟩ : ∃ W3, w2.alloc (.cells #[.int .u64 q0.path, .string q0.who, .bool q0.opn, .int .u8 q0.mode, .int .u64 q0.next] 59) = W3 := ⟨_, rfl⟩
    have m3 : Mod (fun _ => False) w2 W3 := by subst hW3; exact (Mod.refl _ _).alloc _
    have hB3 : W3.heap[w2.heap.size]? = some (.cells #[.int .u64 q0.path, .string q0.who, .bool q0.opn, .int .u8 q0.mode, .int .u64 q0.next] 59 (0, 0)) := by subst hW3; exact new_at _ _
    have hr3 := (m3.block w.heap.size (lt_of HR1.out) (fun x => x)).trans HR1.out
    have hne : w2.heap.size ≠ w.heap.size := by have := lt_of HR1.out; omega
    have hba : b < w.heap.size := HLt.out b H1.out.fb
    have haw : w.heap.size < w2.heap.size := lt_of HR1.out
    obtain ⟨a1, ha1⟩ : ∃ a1, w2.heap.size = a1 := ⟨_, rfl⟩
    rw [ha1] at hB3 hne haw
    have HB3 := Lib.hid hB3
    have HR3 := Lib.hid hr3
    have H3 := Lib.hid (H1.out.mod m3 (fun _ x => x.elim))
    have M3 := Lib.hid (M1.out.trans m3)
    have c3 : W3.cell? ⟨b, 0, none⟩ = some (.slice (some ⟨g, 0, none⟩) l.length vc) := keepR m3 c0
    have t1 := H3.out.held.take (k := j) (by omega)
    have t2 := H3.out.held.drop (j + 1) (by omega)
    have T2 := Lib.hid t2
    have A2 : Hid (Src Try.prog 6 53 (.slice (some ⟨g, 0, none⟩) j vc) j (flatR heldC (l.take j)) W3) := src_recs Try.underlying53 (by decide) held_len held_one t1 (by rw [List.length_take]; omega)
    have C1 : Hid ((0 + j) * 48 ≤ 140737488355328) := by show _ ≤ _; omega
    have C2 : Hid (0 + j ≤ 9223372036854775807) := by show _ ≤ _; omega
    have j1 : (0 : Int) ≤ (j : Int) := by omega
    have j2 : (j : Int) < (l.length : Int) := by omega
    have i1 : (j : Int) ≤ (l.length : Int) := by omega
    have i2 : (j : Int) ≤ (vc : Int) := by omega
    have i3 : (l.length : Int) ≤ (vc : Int) := by omega
    have i4 : (j : Int) + 1 ≤ (l.length : Int) := by omega
    have i5 : (j : Int) + 1 ≤ (vc : Int) := by omega
    clear hA hx hc ha hvx t1 t2 m3 hB3 hr3
    go_upto_region 7 with (refine wpl_append rfl (.tmp 23) (.tmp 29) _ _ rfl W3.heap.size 69 (.agg #[.int .u32 0, .int .u64 0, .string { data := #[] }, .bool false, .int .u8 0, .int .u64 0]) 6 48 Try.underlying53 info_held rfl (by decide) (.slice none 0 0) 0 [] rfl (OwnA.nil W3 W3.heap.size 6) _ _ _ rfl A2.out C1.out C2.out (Nat.le_refl _) ?_; intro v' w5 hown' hgrow; have hm3 : Mod (fun _ => False) W3 w5 := hgrow.mono (fun k _ x => by simp [Value.ownBlock] at x); obtain ⟨a2, q1, rfl, _⟩ := hown'.form; have c5 : w5.cell? ⟨b, 0, none⟩ = some (.slice (some ⟨g, 0, none⟩) l.length vc) := keepR hm3 c3)
    rw [List.nil_append, Nat.zero_add] at hown'
    go_cut [8] from 31 to 39 (fun v wc => Hid (OwnA wc W3.heap.size 6 v (delH l x).length (flatR heldC (delH l x))) ∧ Hid (Mod (fun _ => False) W3 wc))
    case first =>
      have HLen : Hid (j + (l.length - (j + 1)) = (delH l x).length) := by show _ = _; rw [HDs.out, List.length_append, List.length_take, List.length_drop]; omega
      have HCat : Hid (flatR heldC (l.take j) ++ flatR heldC (l.drop (j + 1)) = flatR heldC (delH l x)) := by show _ = _; rw [HDs.out, flatR_append]
      have C3 : Hid ((j + (l.length - (j + 1))) * 48 ≤ 140737488355328) := by show _ ≤ _; omega
      have C4 : Hid (j + (l.length - (j + 1)) ≤ 9223372036854775807) := by show _ ≤ _; omega
      have HO := Lib.hid hown'
      have HM3 := Lib.hid hm3
      clear hown' hgrow hm3 d1 d2 d3 d4 d5
      by_cases hcap : vc = j + 1
      · have HEnd : Hid (OwnA w5 W3.heap.size 6 (.slice a2 j q1) (delH l x).length (flatR heldC (delH l x))) := by
          have hnil : l.drop (j + 1) = [] := List.drop_eq_nil_of_le (by omega)
          have hl := HLen.out
          have hc := HCat.out
          rw [show l.length - (j + 1) = 0 by omega, Nat.add_zero] at hl
          rw [hnil, show flatR heldC [] = [] from rfl, List.append_nil] at hc
          show OwnA _ _ _ _ _ _
          rw [← hl, ← hc]
          exact HO.out
        subst hcap
        cases a2
        all_goals
          go_wp2
          go_meet
          case rel => exact ⟨HEnd, HM3⟩
      · have A3 : Hid (Src Try.prog 6 53 (.slice (some ⟨g, (j + 1) * 6, none⟩) (l.length - (j + 1)) (vc - (j + 1))) (l.length - (j + 1)) (flatR heldC (l.drop (j + 1))) w5) := by
          have h := T2.out.mod HM3.out (fun _ _ _ x => x)
          rw [Nat.zero_add] at h
          exact src_recs Try.underlying53 (by decide) held_len held_one h (by rw [List.length_drop])
        go_wp2_with (refine wpl_append rfl (.tmp 31) (.tmp 38) _ _ rfl W3.heap.size 69 (.agg #[.int .u32 0, .int .u64 0, .string { data := #[] }, .bool false, .int .u8 0, .int .u64 0]) 6 48 Try.underlying53 info_held rfl (by decide) _ j _ rfl HO.out _ _ _ rfl A3.out C3.out C4.out HM3.out.size ?_; intro v2 w6 hown2 hgrow2)
        go_meet
        case rel => exact ⟨by rw [← HLen.out, ← HCat.out]; exact hown2, HO.out.thenMod HM3.out hgrow2 (Nat.le_refl _)⟩
    case rest =>
      obtain ⟨HO7, HM7⟩ := hcut
      obtain ⟨xa, xc, hu7, _⟩ := HO7.out.form
      subst hu7
      obtain ⟨F1, t1, t2, t3⟩ := H3.out.setL HM7.out (HO7.out.mono (Nat.zero_le _)) (fun k hk => (HO7.out.lt k hk).1)
      have hobc := (HM7.out.block b (lt_of H3.out.obj) (fun x => x)).trans H3.out.obj
      have k0 : wc.cell? ⟨b, 0, none⟩ = some (.slice (some ⟨g, 0, none⟩) l.length vc) := (cell_of hobc 0).trans rfl
      have kf0 : wc.frozen? ⟨b, 0, none⟩ = false := free_of hobc 0
      obtain ⟨w4, hw4⟩ : ∃ w4, wc.setCell ⟨b, 0, none⟩ (.slice xa (delH l x).length xc) = w4 := ⟨_, rfl⟩
      have ms : Mod (· = b) wc w4 := by rw [← hw4]; exact Mod.set1 _ _ _ _
      rw [hw4] at t1 t2
      have hr4 := (ms.block w.heap.size (by have := lt_of HR3.out; have := HM7.out.size; omega) (by omega)).trans ((HM7.out.block _ (lt_of HR3.out) (fun x => x)).trans HR3.out)
      have hB4 := (ms.block a1 (by have := lt_of HB3.out; have := HM7.out.size; omega) (by omega)).trans ((HM7.out.block _ (lt_of HB3.out) (fun x => x)).trans HB3.out)
      have g0 : w4.cell? ⟨a1, 0, none⟩ = some (.int .u64 q0.path) := (cell_of hB4 0).trans rfl
      have g1 : w4.cell? ⟨a1, 1, none⟩ = some (.string q0.who) := (cell_of hB4 1).trans rfl
      have g2 : w4.cell? ⟨a1, 2, none⟩ = some (.bool q0.opn) := (cell_of hB4 2).trans rfl
      have g3 : w4.cell? ⟨a1, 3, none⟩ = some (.int .u8 q0.mode) := (cell_of hB4 3).trans rfl
      have g4 : w4.cell? ⟨a1, 4, none⟩ = some (.int .u64 q0.next) := (cell_of hB4 4).trans rfl
      have r0 : (w4).cell? ⟨w.heap.size, 0, none⟩ = some (.int .u64 0) := (cell_of (hr4) 0).trans rfl
      have rf0 : (w4).frozen? ⟨w.heap.size, 0, none⟩ = false := free_of (hr4) 0
      have r1 : (w4).cell? ⟨w.heap.size, 1, none⟩ = some (.string { data := #[] }) := (cell_of (hr4) 1).trans rfl
      have rf1 : (w4).frozen? ⟨w.heap.size, 1, none⟩ = false := free_of (hr4) 1
      have r2 : (w4).cell? ⟨w.heap.size, 2, none⟩ = some (.bool false) := (cell_of (hr4) 2).trans rfl
      have rf2 : (w4).frozen? ⟨w.heap.size, 2, none⟩ = false := free_of (hr4) 2
      have r3 : (w4).cell? ⟨w.heap.size, 3, none⟩ = some (.int .u8 0) := (cell_of (hr4) 3).trans rfl
      have rf3 : (w4).frozen? ⟨w.heap.size, 3, none⟩ = false := free_of (hr4) 3
      have r4 : (w4).cell? ⟨w.heap.size, 4, none⟩ = some (.int .u64 0) := (cell_of (hr4) 4).trans rfl
      have rf4 : (w4).frozen? ⟨w.heap.size, 4, none⟩ = false := free_of (hr4) 4
      have HR4 := Lib.hid hr4
      have T1 := Lib.hid t1
      have MT : Hid (Mod F w w4) := (M3.out.mono fun _ _ x => x.elim).trans t2
      have GX : Hid (¬ F1 w.heap.size) := fun y => (t3 _ y).elim (fun f => by have := HLt.out _ f; omega) (fun f => by have := lt_of HR3.out; omega)
      have GT : Hid (Grows w F F1) := t3.trans' M3.out.size
      clear hown' hgrow hm3 HO7 t1 t2 t3 hobc ms hr4 hB4 c0 c3 c5 H1 H3 T2 HDs A2 C1 C2 i1 i2 i3 i4 i5 d1 d2 d3 d4 d5 HB3 HR3 HR1
      go_wp2
      obtain ⟨W6, hW6⟩ : ∃ W6, ((((((w4).setCell ⟨w.heap.size, 0, none⟩ (.int .u64 q0.path)).setCell ⟨w.heap.size, 1, none⟩ (.string q0.who)).setCell ⟨w.heap.size, 2, none⟩ (.bool q0.opn)).setCell ⟨w.heap.size, 3, none⟩ (.int .u8 q0.mode)).setCell ⟨w.heap.size, 4, none⟩ (.int .u64 q0.next)) = W6 := ⟨_, rfl⟩
      have h6 : W6.heap[w.heap.size]? = some (.cells #[.int .u64 q0.path, .string q0.who, .bool q0.opn, .int .u8 q0.mode, .int .u64 q0.next] 59 (0, 0)) := by subst hW6; exact set5 HR4.out _ _ _ _ _
      have hm6 : Mod (· = w.heap.size) w4 W6 := by subst hW6; exact mod5 _ _ _ _ _ _ _
      rw [hW6]
      have z0 : (W6).cell? ⟨w.heap.size, 0, none⟩ = some (.int .u64 q0.path) := (cell_of (h6) 0).trans rfl
      have z1 : (W6).cell? ⟨w.heap.size, 1, none⟩ = some (.string q0.who) := (cell_of (h6) 1).trans rfl
      have z2 : (W6).cell? ⟨w.heap.size, 2, none⟩ = some (.bool q0.opn) := (cell_of (h6) 2).trans rfl
      have z3 : (W6).cell? ⟨w.heap.size, 3, none⟩ = some (.int .u8 q0.mode) := (cell_of (h6) 3).trans rfl
      have z4 : (W6).cell? ⟨w.heap.size, 4, none⟩ = some (.int .u64 q0.next) := (cell_of (h6) 4).trans rfl
      refine bodyPost_ret (v := .tuple #[.agg #[.int .u64 q0.path, .string q0.who, .bool q0.opn, .int .u8 q0.mode, .int .u64 q0.next], .int .i64 0]) ?_ rfl ⟨by rw [HV.out]; rfl, F1, ⟨_, T1.out.mod hm6 (fun k hk x => ?_)⟩, MT.out.trans' hm6 (fun j hj e => by omega), GT.out⟩
      · simp [results, Try.f25, go_sem, z0, z1, z2, z3, z4]
      · subst hk
        exact GX.out x
end Go.Proofs.Ytcadkaedahoefaa
