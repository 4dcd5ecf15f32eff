/- Package fids's Tags: Flush, Open, End; nil. -/
import Derived.Test.YtcadkaedahoefaaFidDel4
import Derived.Deep.RegionHeldLaw
import Derived.Laws.Cover3
namespace Go.Proofs.Ytcadkaedahoefaa
open Go.RowKit

theorem info_wait : (Try.prog.info? 77).map (fun i => (i.zero, i.size, i.bytes)) = some (some (.agg #[.int .u16 0, .int .u16 0]), 2, 4) := by kernel_rfl
theorem src_wait {P : Program} {tx e : TypeId} (hk : P.underlying tx = some (.slice e)) (T : TypeId) (w : World) (x y : Nat) : Src P 2 tx (.slice (some ⟨w.heap.size, 0, none⟩) 1 1) 1 (wts [(x, y)]) (w.alloc (.cells #[.int .u16 x, .int .u16 y] T)) :=
  src_recs hk (by decide) wt_len wt_one (Q := fun _ => True) (l := [(x, y)]) (.inr ⟨w.heap.size, 0, 1, rfl, trivial, by simp, by simp, fun j s hj i u hu => by
    have hj0 : j = 0 := by
      have := (List.getElem?_eq_some_iff.1 hj).1
      simp at this
      exact this
    subst hj0
    simp at hj
    subst hj
    rw [cell_of (new_at _ _)]
    simpa [wtC] using hu⟩) rfl
def flushS (s : TS) (tag old : Nat) : TS × Bool × Int :=
  if inL s.l tag = false then (s, false, 5) else if tag = old ∨ inL s.l old = false then (s, false, 0) else (⟨s.l, s.w ++ [(tag, old)], s.most⟩, true, 0)
set_option maxHeartbeats 1000000 in
set_option maxRecDepth 100000 in
theorem flush_any (w : World) (F : Nat → Prop) (b tag old : Nat) (s : TS) (h : TagsAt 74 w F b s) (hl : s.l.length ≤ 1000000) (hw : s.w.length ≤ 1000000) :
    Calls Try.prog 10 #[.pointer (some ⟨b, 0, none⟩), .int .u16 tag, .int .u16 old] w fun e w' => e = .returned (.tuple #[.bool (flushS s tag old).2.1, .int .i64 (flushS s tag old).2.2]) ∧ ∃ F', TagsAt 74 w' F' b (flushS s tag old).1 ∧ Mod F w w' ∧ Grows w F F' := by
  obtain ⟨vl, vw, h⟩ := h
  have H := Lib.hid h
  obtain ⟨va, vc, rfl, hvc⟩ := h.ol.form
  obtain ⟨wa, wc, rfl, hwc⟩ := h.ow.form
  have hCt := fun x U hU => contains_any (.slice va s.l.length vc) s.l x (fun _ => True) U hU (by omega)
  have HS := Lib.hid (h.ol.slAt.imp fun _ _ => trivial : SlAt w (fun _ => True) _ _)
  have hobj := h.obj
  have c0 : (w).cell? ⟨b, 0, none⟩ = some (.slice va s.l.length vc) := (cell_of hobj 0).trans rfl
  have c1 : (w).cell? ⟨b, 1, none⟩ = some (.slice wa s.w.length wc) := (cell_of hobj 1).trans rfl
  have c2 : (w).cell? ⟨b, 2, none⟩ = some (.int .i64 s.most) := (cell_of hobj 2).trans rfl
  have f0 : (w).frozen? ⟨b, 0, none⟩ = false := free_of hobj 0
  have f1 : (w).frozen? ⟨b, 1, none⟩ = false := free_of hobj 1
  clear h hobj
  have hC1 := hCt tag
  have hC2 := hCt old
  clear hCt
  cases h1 : inL s.l tag with
  | false =>
    have HV : Hid (flushS s tag old = (s, false, 5)) := if_pos h1
    rw [h1] at hC1
    clear h1 hC2
    go_enter Try.func10, Try.ntmps10
    go_wp2_with fail
    refine (hC1 _ HS.out).mono ?_
    rintro e w1 ⟨rfl, rfl⟩
    go_wp2
    go_ret2
    exact ⟨by rw [HV.out]; rfl, F, by rw [HV.out]; exact ⟨_, _, H.out⟩, Mod.refl _ _, Grows.refl _ _⟩
  | true =>
  rw [h1] at hC1
  by_cases h2 : tag = old
  · have HV : Hid (flushS s tag old = (s, false, 0)) := by show _ = _; unfold flushS; rw [if_neg (by rw [h1]; simp), if_pos (Or.inl h2)]
    subst h2
    have t2 : ((tag : Int) == (tag : Int)) = true := by simp
    clear h1 hC2
    go_enter Try.func10, Try.ntmps10
    go_wp2_with fail
    refine (hC1 _ HS.out).mono ?_
    rintro e w1 ⟨rfl, rfl⟩
    go_wp2
    go_ret2
    exact ⟨by rw [HV.out]; rfl, F, by rw [HV.out]; exact ⟨_, _, H.out⟩, Mod.refl _ _, Grows.refl _ _⟩
  have t2 : ((tag : Int) == (old : Int)) = false := by simp; omega
  cases h3 : inL s.l old with
  | false =>
    have HV : Hid (flushS s tag old = (s, false, 0)) := by show _ = _; unfold flushS; rw [if_neg (by rw [h1]; simp), if_pos (Or.inr h3)]
    rw [h3] at hC2
    clear h1 h3 h2
    go_enter Try.func10, Try.ntmps10
    go_wp2_with fail
    refine (hC1 _ HS.out).mono ?_
    rintro e w1 ⟨rfl, rfl⟩
    go_wp2_with fail
    refine (hC2 _ HS.out).mono ?_
    rintro e w2 ⟨rfl, rfl⟩
    go_wp2
    go_ret2
    exact ⟨by rw [HV.out]; rfl, F, by rw [HV.out]; exact ⟨_, _, H.out⟩, Mod.refl _ _, Grows.refl _ _⟩
  | true =>
    have HV : Hid (flushS s tag old = (⟨s.l, s.w ++ [(tag, old)], s.most⟩, true, 0)) := by show _ = _; unfold flushS; rw [if_neg (by rw [h1]; simp), if_neg (by rw [h3]; simp [h2])]
    rw [h3] at hC2
    clear h1 h3 h2
    go_enter Try.func10, Try.ntmps10
    go_wp2_with fail
    refine (hC1 _ HS.out).mono ?_
    rintro e w1 ⟨rfl, rfl⟩
    go_wp2_with fail
    refine (hC2 _ HS.out).mono ?_
    rintro e w2 ⟨rfl, rfl⟩
    have MA := Lib.hid (((Mod.refl (fun _ => False) w2)).alloc (.cells #[.int .u16 tag, .int .u16 old] 77))
    have HO : Hid (OwnA ((w2).alloc (.cells #[.int .u16 tag, .int .u16 old] 77)) 0 2 (.slice wa s.w.length wc) s.w.length (wts s.w)) := H.out.ow.mod MA.out (fun _ _ x => x)
    have A2 := Lib.hid (src_wait (P := Try.prog) Try.underlying72 77 (w2) tag old)
    have C1 : Hid ((s.w.length + 1) * 4 ≤ 140737488355328) := by show _ ≤ _; omega
    have C2 : Hid (s.w.length + 1 ≤ 9223372036854775807) := by show _ ≤ _; omega
    go_wp2_with (refine wpl_appendB rfl (.tmp 36) (.tmp 40) _ _ rfl 0 77 (.agg #[.int .u16 0, .int .u16 0]) 2 4 Try.underlying72 info_wait rfl (by decide) _ _ _ rfl HO.out _ 1 _ rfl A2.out C1.out C2.out (Nat.zero_le _) ?_; intro v' w3 hown' hgrow hblk; have hmd := (MA.out.mono (T := fun k => some k = (Value.slice wa s.w.length wc).ownBlock) (fun _ _ x => x.elim)).trans hgrow; have hb3 := (hmd.block b (lt_of H.out.obj) (fun x => (H.out.fw b x).2 rfl)).trans H.out.obj; obtain ⟨va2, vc2, rfl, _⟩ := hown'.form; have f1 : w3.frozen? ⟨b, 1, none⟩ = false := free_of hb3 1; have c1 : w3.cell? ⟨b, 1, none⟩ = some (.slice wa s.w.length wc) := (cell_of hb3 1).trans rfl; rw [show wts s.w ++ wts [(tag, old)] = wts (s.w ++ [(tag, old)]) from (wts_append _ _).symm] at hown'; obtain ⟨F', e1, e2, e3⟩ := H.out.setW (l' := s.w ++ [(tag, old)]) hmd (by rw [List.length_append]; exact hown') (fun k hk => by
      rcases hblk with h | h
      · rw [h] at hk; exact Or.inl hk
      · rw [h] at hk; injection hk with hk; subst hk; exact Or.inr (by simp)); have e1 := Lib.hid e1; have e2 := Lib.hid e2; have e3 := Lib.hid e3; clear hown' hgrow hblk hmd hb3)
    go_ret2
    exact ⟨by rw [HV.out]; rfl, _, by rw [HV.out]; exact ⟨_, _, e1.out⟩, e2.out, e3.out⟩
theorem eqlN {P : Program} {t e : TypeId} (h : P.underlying t = some (.slice e)) (a : Option Addr) (l c : Nat) (w : World) : (binOp .eql t (.slice a l c) (.slice none 0 0)).run P w = .ok (.bool a.isNone) w := by
  simp only [binOp]
  simp [run_equal_slice_nil w t e a l c h]
set_option maxHeartbeats 1000000 in
set_option maxRecDepth 100000 in
theorem clone_any (v : Value) (L : List Nat) (w : World) (h : OwnA w 0 1 v L.length (u16s L)) (hl : L.length ≤ 1000000) :
    Calls Try.prog 36 #[v] w fun e w' => ∃ v, e = .returned v ∧ SlAt w' (w.heap.size ≤ ·) v (u16s L) ∧ Mod (fun _ => False) w w' := by
  have hq := eqlN (P := Try.prog) Try.underlying34
  rcases h.2 with ⟨rfl, h0⟩ | ⟨g, vc, rfl, _, _, hvc, _⟩
  · have hq := hq none 0 0
    have HN : Hid (u16s L = []) := by show _ = _; rw [List.eq_nil_of_length_eq_zero h0]; rfl
    clear h
    go_enter Try.func36, Try.ntmps36
    go_wp2
    go_ret
    exact ⟨_, rfl, by rw [HN.out]; exact .inl ⟨rfl, _, _, rfl⟩, Mod.refl _ _⟩
  · have hq := hq (some ⟨g, 0, none⟩) L.length vc
    have hrd : SlAt w (fun _ => True) (.slice (some ⟨g, 0, none⟩) L.length vc) (u16s L) := h.slAt.imp fun _ _ => trivial
    clear h
    have m1 := (Mod.refl (fun _ => False) w).alloc (.cells #[] 29)
    have HO : Hid (OwnA (w.alloc (.cells #[] 29)) w.heap.size 1 (.slice (some ⟨w.heap.size, 0, none⟩) 0 0) 0 []) := ⟨rfl, .inr ⟨_, 0, rfl, Nat.le_refl _, by simp, Nat.le_refl _, fun j hj => by omega, fun j hj => by omega, fun j u hj => by cases hj⟩⟩
    have A2 : Hid (Src Try.prog 1 34 (.slice (some ⟨g, 0, none⟩) L.length vc) L.length (u16s L) (w.alloc (.cells #[] 29))) := src_slAt Try.underlying34 (hrd.mod m1 (fun _ _ _ x => x)) (u16s_length _) (u16s_one _)
    have C1 : Hid ((0 + L.length) * 2 ≤ 140737488355328) := by show _ ≤ _; omega
    have C2 : Hid (0 + L.length ≤ 9223372036854775807) := by show _ ≤ _; omega
    have C3 : Hid (w.heap.size ≤ (w.alloc (.cells #[] 29)).heap.size) := by show _ ≤ _; rw [World.size_alloc]; omega
    have M1 := Lib.hid m1
    clear hrd m1
    go_enter Try.func36, Try.ntmps36
    go_wp2_with (refine wpl_append rfl (.tmp 5) (.tmp 6) _ _ rfl w.heap.size 29 (.int .u16 0) 1 2 Try.underlying34 info_u16 rfl (by decide) _ _ _ rfl HO.out _ _ _ rfl A2.out C1.out C2.out C3.out ?_; intro v' w3 hown' hgrow)
    rw [Nat.zero_add, List.nil_append] at hown'
    go_ret
    exact ⟨_, rfl, hown'.slAt, HO.out.thenMod M1.out hgrow (Nat.le_refl _)⟩
set_option maxHeartbeats 1000000 in
set_option maxRecDepth 100000 in
theorem open_any (w : World) (F : Nat → Prop) (b : Nat) (s : TS) (h : TagsAt 74 w F b s) (hl : s.l.length ≤ 1000000) :
    Calls Try.prog 16 #[.pointer (some ⟨b, 0, none⟩)] w fun e w' => ∃ v, e = .returned v ∧ SlAt w' (w.heap.size ≤ ·) v (u16s s.l) ∧ Mod (fun _ => False) w w' := by
  obtain ⟨vl, vw, h⟩ := h
  obtain ⟨va, vc, rfl, hvc⟩ := h.ol.form
  have hobj := h.obj
  have hC := clone_any _ s.l w h.ol hl
  have c0 : (w).cell? ⟨b, 0, none⟩ = some (.slice va s.l.length vc) := (cell_of hobj 0).trans rfl
  have c1 : (w).cell? ⟨b, 1, none⟩ = some (vw) := (cell_of hobj 1).trans rfl
  have c2 : (w).cell? ⟨b, 2, none⟩ = some (.int .i64 s.most) := (cell_of hobj 2).trans rfl
  have f0 : (w).frozen? ⟨b, 0, none⟩ = false := free_of hobj 0
  have f1 : (w).frozen? ⟨b, 1, none⟩ = false := free_of hobj 1
  clear h hobj
  go_enter Try.func16, Try.ntmps16
  go_wp2_with fail
  refine hC.mono ?_
  rintro e w1 ⟨v, rfl, hv, m1⟩
  have HV := Lib.hid hv
  have HM := Lib.hid m1
  obtain ⟨xa, xc, rfl, _, _⟩ := hv.form
  clear hv m1
  go_wp2
  go_ret
  exact ⟨_, rfl, HV.out, HM.out⟩
theorem Grows.trans' {w w' : World} {F F' : Nat → Prop} (h : Grows w' F F') (hs : w.heap.size ≤ w'.heap.size) : Grows w F F' := fun k hk => (h k hk).imp id fun x => Nat.le_trans hs x
def endS (s : TS) (tag : Nat) : TS × List Nat × Int :=
  if inL s.l tag = false then (s, [], 5) else (⟨dropL tag s.l, leftS tag s.w, s.most⟩, toldL tag s.w, 0)
set_option maxHeartbeats 1000000 in
set_option maxRecDepth 100000 in
theorem end_any (w : World) (F : Nat → Prop) (b tag : Nat) (s : TS) (h : TagsAt 74 w F b s) (hl : s.l.length ≤ 100000) (hw : s.w.length ≤ 100000) :
    Calls Try.prog 11 #[.pointer (some ⟨b, 0, none⟩), .int .u16 tag] w fun e w' => ∃ v, e = .returned (.tuple #[v, .int .i64 (endS s tag).2.2]) ∧ SlAt w' (w.heap.size ≤ ·) v (u16s (endS s tag).2.1) ∧ ∃ F', TagsAt 74 w' F' b (endS s tag).1 ∧ Mod F w w' ∧ Grows w F F' := by
  obtain ⟨W1, hW1⟩ : ∃ W1, w.alloc (.cells #[.int .u16 tag] 29) = W1 := ⟨_, rfl⟩
  have hB : W1.heap[w.heap.size]? = some (.cells #[.int .u16 tag] 29 (0, 0)) := by subst hW1; exact new_at _ _
  have m1 : Mod (fun _ => False) w W1 := by subst hW1; exact (Mod.refl _ _).alloc _
  have g0 : W1.cell? ⟨w.heap.size, 0, none⟩ = some (.int .u16 tag) := (cell_of hB 0).trans rfl
  have hlt := h.lt
  have h := h.mod m1 (fun _ x => x.elim)
  obtain ⟨vl, vw, h⟩ := h
  have H := Lib.hid h
  obtain ⟨va, vc, rfl, hvc⟩ := h.ol.form
  obtain ⟨wa, wc, rfl, hwc⟩ := h.ow.form
  have hCt := fun U hU => contains_any (.slice va s.l.length vc) s.l tag (fun _ => True) U hU (by omega)
  have HS := Lib.hid (h.ol.slAt.imp fun _ _ => trivial : SlAt W1 (fun _ => True) _ _)
  have hobj := h.obj
  have c0 : (W1).cell? ⟨b, 0, none⟩ = some (.slice va s.l.length vc) := (cell_of hobj 0).trans rfl
  have c1 : (W1).cell? ⟨b, 1, none⟩ = some (.slice wa s.w.length wc) := (cell_of hobj 1).trans rfl
  have c2 : (W1).cell? ⟨b, 2, none⟩ = some (.int .i64 s.most) := (cell_of hobj 2).trans rfl
  have f0 : (W1).frozen? ⟨b, 0, none⟩ = false := free_of hobj 0
  have f1 : (W1).frozen? ⟨b, 1, none⟩ = false := free_of hobj 1
  have hDl := fun U => delf_any (.slice va s.l.length vc) s.l w.heap.size tag U
  clear h hobj
  cases h1 : inL s.l tag with
  | false =>
    have HV : Hid (endS s tag = (s, [], 5)) := if_pos h1
    rw [h1] at hCt
    clear h1 hDl
    go_enter Try.func11, Try.ntmps11
    go_wp2
    refine wp_onlyN ?_
    go_region_held_law (fun w' => w'.cell? ⟨b, 0, none⟩ = some (.slice va s.l.length vc) ∧ w'.cell? ⟨w.heap.size, 0, none⟩ = some (.int .u16 tag)) (first | exact ⟨c0, g0⟩) (first | (go_at_call 30; refine (hCt _ (HS.out.mod ((Mod.refl (fun _ => False) _).drew) (fun _ _ _ x => x))).mono ?_; rintro e w4 ⟨rfl, rfl⟩))
    all_goals refine onlyN_out ?_
    go_wp2
    go_ret2
    have md := (Mod.refl (fun _ => False) W1).drew
    exact ⟨_, by rw [HV.out]; rfl, by rw [HV.out]; exact .inl ⟨rfl, _, _, rfl⟩, F, by rw [HV.out]; exact ⟨_, _, H.out.mod md (fun _ x => x.elim)⟩, (m1.trans md).mono (fun _ _ x => x.elim), Grows.refl _ _⟩
  | true =>
    have HV : Hid (endS s tag = (⟨dropL tag s.l, leftS tag s.w, s.most⟩, toldL tag s.w, 0)) := by show _ = _; unfold endS; rw [if_neg (by rw [h1]; simp)]
    rw [h1] at hCt
    have hDl2 := hDl (W1.drew)
    clear h1 hDl
    go_enter Try.func11, Try.ntmps11
    go_wp2
    refine wp_onlyN ?_
    go_region_held_law (fun w' => w'.cell? ⟨b, 0, none⟩ = some (.slice va s.l.length vc) ∧ w'.cell? ⟨w.heap.size, 0, none⟩ = some (.int .u16 tag)) (first | exact ⟨c0, g0⟩) (first | (go_at_call 30; refine (hCt _ (HS.out.mod ((Mod.refl (fun _ => False) _).drew) (fun _ _ _ x => x))).mono ?_; rintro e w4 ⟨rfl, rfl⟩))
    all_goals refine onlyN_out ?_
    have md := (Mod.refl (fun _ => False) W1).drew
    have Hd := H.out.mod md (fun _ x => x.elim)
    obtain ⟨Wd, hWd⟩ : ∃ Wd, W1.drew = Wd := ⟨_, rfl⟩
    rw [hWd] at md Hd hDl2 ⊢
    have hsz : w.heap.size < Wd.heap.size := Nat.lt_of_lt_of_le (lt_of hB) md.size
    have gd := keepR md g0
    have hobj := Hd.obj
    have c0 : (Wd).cell? ⟨b, 0, none⟩ = some (.slice va s.l.length vc) := (cell_of hobj 0).trans rfl
    have c1 : (Wd).cell? ⟨b, 1, none⟩ = some (.slice wa s.w.length wc) := (cell_of hobj 1).trans rfl
    have c2 : (Wd).cell? ⟨b, 2, none⟩ = some (.int .i64 s.most) := (cell_of hobj 2).trans rfl
    have f0 : (Wd).frozen? ⟨b, 0, none⟩ = false := free_of hobj 0
    have f1 : (Wd).frozen? ⟨b, 1, none⟩ = false := free_of hobj 1
    have hD := hDl2 Hd.ol (by omega) gd (fun k hk => by have := hlt k (Hd.fl k hk).1; omega)
    have HM1 := Lib.hid (m1.trans md)
    clear hDl2 hCt HS H hB hW1 md m1 hobj g0
    go_wp2_with fail
    refine hD.mono ?_
    rintro e w5 ⟨v1, rfl, hO1, hM5, hB1⟩
    obtain ⟨a1, q1, rfl, _⟩ := hO1.form
    have hbn : ¬ some b = (Value.slice va s.l.length vc).ownBlock := fun x => (Hd.fl b x).2 rfl
    have hb5 := (hM5.block b (lt_of Hd.obj) hbn).trans Hd.obj
    have k0 : w5.cell? ⟨b, 0, none⟩ = some (.slice va s.l.length vc) := (cell_of hb5 0).trans rfl
    have kf : w5.frozen? ⟨b, 0, none⟩ = false := free_of hb5 0
    obtain ⟨F1, t1, t2, t3⟩ := Hd.setL hM5 hO1 (fun k hk => Or.inl (hB1 k hk))
    have hgt : ¬ some w.heap.size = (Value.slice va s.l.length vc).ownBlock := fun x => by have := hlt _ (Hd.fl _ x).1; omega
    have g5 := (World.cell?_of_block (a := ⟨w.heap.size, 0, none⟩) (hM5.block w.heap.size hsz hgt)).trans gd
    obtain ⟨w6, hw6⟩ : ∃ w6, w5.setCell ⟨b, 0, none⟩ (.slice a1 (dropL tag s.l).length q1) = w6 := ⟨_, rfl⟩
    have hbw : b ≠ w.heap.size := fun e => by have := hlt b Hd.fb; omega
    have g6 : w6.cell? ⟨w.heap.size, 0, none⟩ = some (.int .u16 tag) := by
      rw [← hw6]
      exact (World.cell?_of_block (a := ⟨w.heap.size, 0, none⟩) ((Mod.set1 w5 b 0 _).block w.heap.size (lt_of_cell g5) (fun e => hbw e.symm))).trans g5
    rw [hw6] at t1 t2
    have hs6 : w6.heap.size = w5.heap.size := by rw [← hw6]; simp [World.setCell]
    obtain ⟨w7, hw7⟩ : ∃ w7, w6.alloc (.cells #[.slice none 0 0] 34) = w7 := ⟨_, rfl⟩
    have hB7 : w7.heap[w5.heap.size]? = some (.cells #[.slice none 0 0] 34 (0, 0)) := by rw [← hs6]; subst hw7; exact new_at _ _
    have m7 : Mod (fun _ => False) w6 w7 := by subst hw7; exact (Mod.refl _ _).alloc _
    have t7 := t1.mod m7 (fun _ x => x.elim)
    have g7 := keepR m7 g6
    have hTo : ToldAt w7 w.heap.size w5.heap.size tag [] := ⟨g7, by rw [← hs6]; exact lt_of_cell g6, _, hB7, OwnA.nil _ _ _⟩
    have hD2 := delw_any (.slice wa s.w.length wc) s.w w.heap.size w5.heap.size tag w7 t7.ow (by omega) hTo (fun k hk => ⟨fun e => by have := hlt k (Hd.fw k hk).1; omega, by rw [← hs6]; exact t1.lt k (t1.fw k hk).1⟩)
    have hob7 := t7.obj
    have e1 : w7.cell? ⟨b, 1, none⟩ = some (.slice wa s.w.length wc) := (cell_of hob7 1).trans rfl
    have T1 := Lib.hid t1
    have T2 := Lib.hid t2
    have T3 := Lib.hid t3
    have M7 := Lib.hid m7
    have HD := Lib.hid Hd
    clear hO1 hM5 hB1 hb5 hbn hgt g5 t1 t2 t3 m7 t7 hob7 hTo hD Hd hB7 gd g6 g7 hWd
    go_wp2_with fail
    refine hD2.mono ?_
    rintro e w8 ⟨v2, rfl, hO2, hM8, hB2, hTo2⟩
    obtain ⟨a2, q2, rfl, _⟩ := hO2.form
    have hm68 : Mod (fun k => some k = (Value.slice wa s.w.length wc).ownBlock) w6 w8 := (M7.out.mono fun _ _ x => x.elim).trans' hM8 fun k hk x => x.resolve_right (by omega)
    have hb8 := (hm68.block b (lt_of T1.out.obj) (fun x => (T1.out.fw b x).2 rfl)).trans T1.out.obj
    have k1 : w8.cell? ⟨b, 1, none⟩ = some (.slice wa s.w.length wc) := (cell_of hb8 1).trans rfl
    have kf1 : w8.frozen? ⟨b, 1, none⟩ = false := free_of hb8 1
    obtain ⟨F2, s1, s2, s3⟩ := T1.out.setW hm68 hO2 (fun k hk => Or.inl (hB2 k hk))
    have hbd : b < w6.heap.size := T1.out.lt b T1.out.fb
    rw [hs6] at hbd
    obtain ⟨w9, hw9⟩ : ∃ w9, w8.setCell ⟨b, 1, none⟩ (.slice a2 (leftS tag s.w).length q2) = w9 := ⟨_, rfl⟩
    have hTo9 : ToldAt w9 w.heap.size w5.heap.size tag (toldL tag s.w) := by
      rw [← hw9]
      exact hTo2.mod (Mod.set1 w8 b 1 _) (fun e => hbw e.symm) (fun k hk e => by omega)
    rw [hw9] at s1 s2
    obtain ⟨_, hblt, vt, hvt, hvo⟩ := hTo9
    obtain ⟨ta, tc, rfl, _⟩ := hvo.form
    have kt : w9.cell? ⟨w5.heap.size, 0, none⟩ = some (.slice ta (toldL tag s.w).length tc) := (cell_of hvt 0).trans rfl
    have HS9 := Lib.hid (hvo.slAt.imp fun k hk => by omega : SlAt w9 (w.heap.size ≤ ·) _ _)
    have S1 := Lib.hid s1
    have S2 : Hid (Mod F w w9) := (HM1.out.mono fun _ _ x => x.elim).trans (T2.out.trans' s2 fun k hk x => by
      rcases T3.out k x with h1 | h1
      · exact h1
      · omega)
    have S3 : Hid (Grows w F F2) := (T3.out.trans s3 T2.out.size).trans' HM1.out.size
    clear hO2 hM8 hB2 hTo2 hm68 hb8 s1 s2 s3 hvt hvo hD2
    go_wp2
    go_ret2
    exact ⟨_, by rw [HV.out]; rfl, by rw [HV.out]; exact HS9.out, F2, by rw [HV.out]; exact ⟨_, _, S1.out⟩, S2.out, S3.out⟩
end Go.Proofs.Ytcadkaedahoefaa
