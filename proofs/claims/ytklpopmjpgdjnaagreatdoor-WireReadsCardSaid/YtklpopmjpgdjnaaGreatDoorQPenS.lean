/- Package wire's pen, writing: stats. -/
import Derived.Test.YtklpopmjpgdjnaaGreatDoorQPenT
set_option linter.unusedVariables false
set_option linter.unusedSimpArgs false
namespace Go.Proofs.YtklpopmjpgdjnaaGreatDoor
open Go.RowKit

theorem encS_le (s : St) : (encS s).1.size ≤ 65537 := by
  unfold encS
  split
  · simp
  · rw [bs_size, List.length_append, leBytes_length, St.body_length]; omega
theorem encS_e (s : St) : (encS s).2 = 0 ∨ (encS s).2 = 4 := by
  unfold encS
  split
  · exact Or.inr rfl
  · exact Or.inl rfl
def stB (s : St) : List UInt8 := leBytes 2 (encS s).1.size ++ (encS s).1.data.toList
def stL (s : St) : Bool := decide ((encS s).2 ≠ 0) || decide (65535 < (encS s).1.size)
theorem wrStat_eq (o : Wr) (s : St) : wrB (o.1, o.2 || stL s) (stB s) = wrStat o s := by
  unfold wrStat stL stB
  rw [Bool.or_assoc]
set_option maxHeartbeats 4000000 in
set_option maxRecDepth 100000 in
theorem stat1_w (bp br bb : Nat) (F : Nat → Prop) (o : Wr) (wr : Bool) (s : St) (w : World) (h : PenAt w F bp 0 o.1 br o.2 wr) (hc : w.cell? ⟨bb, 0, none⟩ = some (.pointer (some ⟨bp, 0, none⟩))) (hk : s.Ok) (hs : s.n.size ≤ 262144 ∧ s.u.size ≤ 262144 ∧ s.g.size ≤ 262144 ∧ s.m.size ≤ 262144) :
    Calls Tryz.prog 125 #[s.v, .pointer (some ⟨bb, 0, none⟩)] w fun e w' => e = .returned (.string (bs (stB s))) ∧ PenAt w' F bp 0 o.1 br (o.2 || stL s) wr ∧ Mod F w w' := by
  obtain ⟨out, lg⟩ := o
  have h : PenAt w F bp 0 out br lg wr := h
  show Calls _ _ _ _ fun e w' => _ ∧ PenAt w' F bp 0 out br (lg || stL s) wr ∧ _
  obtain ⟨W, hW⟩ : ∃ W, w.alloc (.cells s.cells.toArray 31) = W := ⟨_, rfl⟩
  have hB : W.heap[w.heap.size]? = some (.cells s.cells.toArray 31 (0, 0)) := by subst hW; exact new_at _ _
  have m0 : Mod (fun _ => False) w W := by subst hW; exact (Mod.refl _ w).alloc _
  have hE := enc_any s W hk hs.1 hs.2.1 hs.2.2.1 hs.2.2.2
  have hle := encS_le s
  have he := encS_e s
  have hBB : stB s = leBytes 2 (encS s).1.size ++ (encS s).1.data.toList := rfl
  have hLL : stL s = (decide ((encS s).2 ≠ 0) || decide (65535 < (encS s).1.size)) := rfl
  have HB : Hid (bs (stB s) = bs (leBytes 2 (encS s).1.size) ++ (encS s).1) := by show _ = _; rw [hBB, bs_cat, bs_of]
  unfold St.cells at hB hW
  have hC : ((W).cell? ⟨w.heap.size, 0, none⟩ = some (.int .u16 s.ty) ∧ (W).cell? ⟨w.heap.size, 1, none⟩ = some (.int .u32 s.dev) ∧ (W).cell? ⟨w.heap.size, 2, none⟩ = some (.int .u8 s.qt) ∧ (W).cell? ⟨w.heap.size, 3, none⟩ = some (.int .u32 s.qv) ∧ (W).cell? ⟨w.heap.size, 4, none⟩ = some (.int .u64 s.qp) ∧ (W).cell? ⟨w.heap.size, 5, none⟩ = some (.int .u32 s.mo) ∧ (W).cell? ⟨w.heap.size, 6, none⟩ = some (.int .u32 s.at_) ∧ (W).cell? ⟨w.heap.size, 7, none⟩ = some (.int .u32 s.mt) ∧ (W).cell? ⟨w.heap.size, 8, none⟩ = some (.int .u64 s.len) ∧ (W).cell? ⟨w.heap.size, 9, none⟩ = some (.string s.n) ∧ (W).cell? ⟨w.heap.size, 10, none⟩ = some (.string s.u) ∧ (W).cell? ⟨w.heap.size, 11, none⟩ = some (.string s.g) ∧ (W).cell? ⟨w.heap.size, 12, none⟩ = some (.string s.m)) := ⟨(cell_of (w := W) hB 0).trans rfl, (cell_of (w := W) hB 1).trans rfl, (cell_of (w := W) hB 2).trans rfl, (cell_of (w := W) hB 3).trans rfl, (cell_of (w := W) hB 4).trans rfl, (cell_of (w := W) hB 5).trans rfl, (cell_of (w := W) hB 6).trans rfl, (cell_of (w := W) hB 7).trans rfl, (cell_of (w := W) hB 8).trans rfl, (cell_of (w := W) hB 9).trans rfl, (cell_of (w := W) hB 10).trans rfl, (cell_of (w := W) hB 11).trans rfl, (cell_of (w := W) hB 12).trans rfl⟩
  obtain ⟨d0, d1, d2, d3, d4, d5, d6, d7, d8, d9, d10, d11, d12⟩ := hC
  clear hBB hB
  generalize encS s = y at *
  obtain ⟨y, ye⟩ := y
  simp only at hE hle he hLL HB
  have hU := fun X U hX => wU16 y.size X hX U
  unfold St.v St.cells at hE ⊢
  rcases he with rfl | rfl
  · by_cases hy : 65535 < y.size
    · have HL : Hid ((lg || stL s) = true) := by show _ = _; rw [hLL]; simp [hy]
      have ty : decide (65535 < (y.size : Int)) = true := by simp; omega
      clear hLL
      go_enter Tryz.func125, Tryz.ntmps125
      go_wp2_with fail
      refine hE.mono ?_
      rintro e w1 ⟨rfl, m1⟩
      replace m1 := m0.trans m1
      cases lg
      · have h1 := h.mod m1 (fun _ x => x.elim)
        have hc1 := keepR m1 hc
        obtain ⟨_, _, c4, f4, _, _⟩ := h1.cells
        have H1 := Lib.hid h1
        clear h h1 hE hc
        go_wp2
        refine wp_region_then2 (k := 16) _ _ rfl rfl rfl (by kernel_rfl) (by kernel_rfl) (by kernel_rfl) ?_
        simp only [List.take_succ_cons, List.take_zero]
        repeat (go_big_quiet_step (fail))
        refine wpQuiet_nil ?_
        intro _ hw'
        obtain ⟨nq, hw''⟩ := hw'
        subst hw''
        intro K hK
        go_simp
        refine hK _ _ ?_; clear hK K
        have hm2 : Mod (fun _ => False) w (w1.drewN nq) := m1.drewN nq
        obtain ⟨hp, hm⟩ := (H1.out.mod ((Mod.refl (fun _ => False) _).drewN nq) (fun _ x => x.elim)).setLong true
        have HP := Lib.hid hp
        have HM := Lib.hid ((hm2.mono (T := F) fun _ _ x => x.elim).trans hm)
        clear hp hm hm2 H1 m1
        have hb2 : (bs (leBytes 2 y.size)).size = 2 := by rw [bs_size, leBytes_length]
        go_wp2_with fail
        refine (hU _ _ (by first | omega | (rw [IntKind.wrap_u16]; done) | (rw [IntKind.wrap_u16]; omega))).mono ?_
        rintro e w2 ⟨rfl, m2⟩
        clear hU
        generalize bs (leBytes 2 y.size) = t2 at *
        go_wp2
        go_ret
        exact ⟨by rw [HB.out]; rfl, by rw [HL.out]; exact HP.out.mod m2 (fun _ x => x.elim), HM.out.trans (m2.mono fun _ _ x => x.elim)⟩
      · have h1 := h.mod m1 (fun _ x => x.elim)
        have hc1 := keepR m1 hc
        obtain ⟨_, _, c4, f4, _, _⟩ := h1.cells
        have H1 := Lib.hid h1
        clear h h1 hE hc
        go_wp2
        refine wp_region_then2 (k := 16) _ _ rfl rfl rfl (by kernel_rfl) (by kernel_rfl) (by kernel_rfl) ?_
        simp only [List.take_succ_cons, List.take_zero]
        repeat (go_big_quiet_step (fail))
        refine wpQuiet_nil ?_
        intro _ hw'
        obtain ⟨nq, hw''⟩ := hw'
        subst hw''
        intro K hK
        go_simp
        refine hK _ _ ?_; clear hK K
        have hm2 : Mod (fun _ => False) w (w1.drewN nq) := m1.drewN nq
        obtain ⟨hp, hm⟩ := (H1.out.mod ((Mod.refl (fun _ => False) _).drewN nq) (fun _ x => x.elim)).setLong true
        have HP := Lib.hid hp
        have HM := Lib.hid ((hm2.mono (T := F) fun _ _ x => x.elim).trans hm)
        clear hp hm hm2 H1 m1
        have hb2 : (bs (leBytes 2 y.size)).size = 2 := by rw [bs_size, leBytes_length]
        go_wp2_with fail
        refine (hU _ _ (by first | omega | (rw [IntKind.wrap_u16]; done) | (rw [IntKind.wrap_u16]; omega))).mono ?_
        rintro e w2 ⟨rfl, m2⟩
        clear hU
        generalize bs (leBytes 2 y.size) = t2 at *
        go_wp2
        go_ret
        exact ⟨by rw [HB.out]; rfl, by rw [HL.out]; exact HP.out.mod m2 (fun _ x => x.elim), HM.out.trans (m2.mono fun _ _ x => x.elim)⟩
    · have HL : Hid ((lg || stL s) = lg) := by show _ = _; rw [hLL]; simp [hy]
      have ty : decide (65535 < (y.size : Int)) = false := by simp; omega
      clear hLL
      go_enter Tryz.func125, Tryz.ntmps125
      go_wp2_with fail
      refine hE.mono ?_
      rintro e w1 ⟨rfl, m1⟩
      replace m1 := m0.trans m1
      cases lg
      · have h1 := h.mod m1 (fun _ x => x.elim)
        have hc1 := keepR m1 hc
        obtain ⟨_, _, c4, f4, _, _⟩ := h1.cells
        have H1 := Lib.hid h1
        clear h h1 hE hc
        go_wp2
        refine wp_region_then2 (k := 16) _ _ rfl rfl rfl (by kernel_rfl) (by kernel_rfl) (by kernel_rfl) ?_
        simp only [List.take_succ_cons, List.take_zero]
        repeat (go_big_quiet_step (fail))
        refine wpQuiet_nil ?_
        intro _ hw'
        obtain ⟨nq, hw''⟩ := hw'
        subst hw''
        intro K hK
        go_simp
        refine hK _ _ ?_; clear hK K
        have hm2 : Mod (fun _ => False) w (w1.drewN nq) := m1.drewN nq
        obtain ⟨hp, hm⟩ := (H1.out.mod ((Mod.refl (fun _ => False) _).drewN nq) (fun _ x => x.elim)).setLong false
        have HP := Lib.hid hp
        have HM := Lib.hid ((hm2.mono (T := F) fun _ _ x => x.elim).trans hm)
        clear hp hm hm2 H1 m1
        have hb2 : (bs (leBytes 2 y.size)).size = 2 := by rw [bs_size, leBytes_length]
        go_wp2_with fail
        refine (hU _ _ (by first | omega | (rw [IntKind.wrap_u16]; done) | (rw [IntKind.wrap_u16]; omega))).mono ?_
        rintro e w2 ⟨rfl, m2⟩
        clear hU
        generalize bs (leBytes 2 y.size) = t2 at *
        go_wp2
        go_ret
        exact ⟨by rw [HB.out]; rfl, by rw [HL.out]; exact HP.out.mod m2 (fun _ x => x.elim), HM.out.trans (m2.mono fun _ _ x => x.elim)⟩
      · have h1 := h.mod m1 (fun _ x => x.elim)
        have hc1 := keepR m1 hc
        obtain ⟨_, _, c4, f4, _, _⟩ := h1.cells
        have H1 := Lib.hid h1
        clear h h1 hE hc
        go_wp2
        refine wp_region_then2 (k := 16) _ _ rfl rfl rfl (by kernel_rfl) (by kernel_rfl) (by kernel_rfl) ?_
        simp only [List.take_succ_cons, List.take_zero]
        repeat (go_big_quiet_step (fail))
        refine wpQuiet_nil ?_
        intro _ hw'
        obtain ⟨nq, hw''⟩ := hw'
        subst hw''
        intro K hK
        go_simp
        refine hK _ _ ?_; clear hK K
        have hm2 : Mod (fun _ => False) w (w1.drewN nq) := m1.drewN nq
        obtain ⟨hp, hm⟩ := (H1.out.mod ((Mod.refl (fun _ => False) _).drewN nq) (fun _ x => x.elim)).setLong true
        have HP := Lib.hid hp
        have HM := Lib.hid ((hm2.mono (T := F) fun _ _ x => x.elim).trans hm)
        clear hp hm hm2 H1 m1
        have hb2 : (bs (leBytes 2 y.size)).size = 2 := by rw [bs_size, leBytes_length]
        go_wp2_with fail
        refine (hU _ _ (by first | omega | (rw [IntKind.wrap_u16]; done) | (rw [IntKind.wrap_u16]; omega))).mono ?_
        rintro e w2 ⟨rfl, m2⟩
        clear hU
        generalize bs (leBytes 2 y.size) = t2 at *
        go_wp2
        go_ret
        exact ⟨by rw [HB.out]; rfl, by rw [HL.out]; exact HP.out.mod m2 (fun _ x => x.elim), HM.out.trans (m2.mono fun _ _ x => x.elim)⟩
  · have HL : Hid ((lg || stL s) = true) := by show _ = _; rw [hLL]; simp
    clear hLL
    go_enter Tryz.func125, Tryz.ntmps125
    go_wp2_with fail
    refine hE.mono ?_
    rintro e w1 ⟨rfl, m1⟩
    replace m1 := m0.trans m1
    cases lg
    · have h1 := h.mod m1 (fun _ x => x.elim)
      have hc1 := keepR m1 hc
      obtain ⟨_, _, c4, f4, _, _⟩ := h1.cells
      have H1 := Lib.hid h1
      clear h h1 hE hc
      go_wp2
      refine wp_region_then2 (k := 16) _ _ rfl rfl rfl (by kernel_rfl) (by kernel_rfl) (by kernel_rfl) ?_
      simp only [List.take_succ_cons, List.take_zero]
      repeat (go_big_quiet_step (fail))
      refine wpQuiet_nil ?_
      intro _ hw'
      obtain ⟨nq, hw''⟩ := hw'
      subst hw''
      intro K hK
      go_simp
      refine hK _ _ ?_; clear hK K
      have hm2 : Mod (fun _ => False) w (w1.drewN nq) := m1.drewN nq
      obtain ⟨hp, hm⟩ := (H1.out.mod ((Mod.refl (fun _ => False) _).drewN nq) (fun _ x => x.elim)).setLong true
      have HP := Lib.hid hp
      have HM := Lib.hid ((hm2.mono (T := F) fun _ _ x => x.elim).trans hm)
      clear hp hm hm2 H1 m1
      have hb2 : (bs (leBytes 2 y.size)).size = 2 := by rw [bs_size, leBytes_length]
      go_wp2_with fail
      refine (hU _ _ (by first | omega | (rw [IntKind.wrap_u16]; done) | (rw [IntKind.wrap_u16]; omega))).mono ?_
      rintro e w2 ⟨rfl, m2⟩
      clear hU
      generalize bs (leBytes 2 y.size) = t2 at *
      go_wp2
      go_ret
      exact ⟨by rw [HB.out]; rfl, by rw [HL.out]; exact HP.out.mod m2 (fun _ x => x.elim), HM.out.trans (m2.mono fun _ _ x => x.elim)⟩
    · have h1 := h.mod m1 (fun _ x => x.elim)
      have hc1 := keepR m1 hc
      obtain ⟨_, _, c4, f4, _, _⟩ := h1.cells
      have H1 := Lib.hid h1
      clear h h1 hE hc
      go_wp2
      refine wp_region_then2 (k := 16) _ _ rfl rfl rfl (by kernel_rfl) (by kernel_rfl) (by kernel_rfl) ?_
      simp only [List.take_succ_cons, List.take_zero]
      repeat (go_big_quiet_step (fail))
      refine wpQuiet_nil ?_
      intro _ hw'
      obtain ⟨nq, hw''⟩ := hw'
      subst hw''
      intro K hK
      go_simp
      refine hK _ _ ?_; clear hK K
      have hm2 : Mod (fun _ => False) w (w1.drewN nq) := m1.drewN nq
      obtain ⟨hp, hm⟩ := (H1.out.mod ((Mod.refl (fun _ => False) _).drewN nq) (fun _ x => x.elim)).setLong true
      have HP := Lib.hid hp
      have HM := Lib.hid ((hm2.mono (T := F) fun _ _ x => x.elim).trans hm)
      clear hp hm hm2 H1 m1
      have hb2 : (bs (leBytes 2 y.size)).size = 2 := by rw [bs_size, leBytes_length]
      go_wp2_with fail
      refine (hU _ _ (by first | omega | (rw [IntKind.wrap_u16]; done) | (rw [IntKind.wrap_u16]; omega))).mono ?_
      rintro e w2 ⟨rfl, m2⟩
      clear hU
      generalize bs (leBytes 2 y.size) = t2 at *
      go_wp2
      go_ret
      exact ⟨by rw [HB.out]; rfl, by rw [HL.out]; exact HP.out.mod m2 (fun _ x => x.elim), HM.out.trans (m2.mono fun _ _ x => x.elim)⟩
theorem wrStat_le (o : Wr) (s : St) (h : o.1.length ≤ 8192) : (wrStat o s).1.length ≤ 8192 := wrB_le _ _ h
set_option maxHeartbeats 2000000 in
set_option maxRecDepth 100000 in
theorem on_stat_w (bp br bb bx : Nat) (F : Nat → Prop) (o : Wr) (wr : Bool) (s : St) (rf : Value) (w : World) (h : PenAt w F bp 0 o.1 br o.2 wr) (hx : ((w).cell? ⟨bx, 23, none⟩ = some (.int .u16 s.ty) ∧ (w).cell? ⟨bx, 24, none⟩ = some (.int .u32 s.dev) ∧ (w).cell? ⟨bx, 25, none⟩ = some (.int .u8 s.qt) ∧ (w).cell? ⟨bx, 26, none⟩ = some (.int .u32 s.qv) ∧ (w).cell? ⟨bx, 27, none⟩ = some (.int .u64 s.qp) ∧ (w).cell? ⟨bx, 28, none⟩ = some (.int .u32 s.mo) ∧ (w).cell? ⟨bx, 29, none⟩ = some (.int .u32 s.at_) ∧ (w).cell? ⟨bx, 30, none⟩ = some (.int .u32 s.mt) ∧ (w).cell? ⟨bx, 31, none⟩ = some (.int .u64 s.len) ∧ (w).cell? ⟨bx, 32, none⟩ = some (.string s.n) ∧ (w).cell? ⟨bx, 33, none⟩ = some (.string s.u) ∧ (w).cell? ⟨bx, 34, none⟩ = some (.string s.g) ∧ (w).cell? ⟨bx, 35, none⟩ = some (.string s.m))) (hc : w.cell? ⟨bb, 0, none⟩ = some (.pointer (some ⟨bp, 0, none⟩))) (hk : s.Ok) (hs : s.n.size ≤ 262144 ∧ s.u.size ≤ 262144 ∧ s.g.size ≤ 262144 ∧ s.m.size ≤ 262144) (ho : o.1.length ≤ 8192) :
    Calls Tryz.prog 124 #[.pointer (some ⟨bp, 0, none⟩), .pointer (some ⟨bx, 23, none⟩), .func (.func 125) #[] #[.pointer (some ⟨bb, 0, none⟩)], rf] w fun e w' => e = .returned (.tuple #[]) ∧ Pens w w' F bp br (wrStat o s) wr := by
  obtain ⟨c0, c3, _, _, _, _⟩ := h.cells
  have hT := stat1_w bp br bb F o wr s w h hc hk hs
  have hW := fun U hU => pwrite_any bp br F (o.1, o.2 || stL s) wr (stB s) U hU (by have := encS_le s; unfold stB; rw [List.length_append, leBytes_length, Array.length_toList]; show 2 + (encS s).1.size ≤ _; omega) (by show o.1.length ≤ _; omega)
  rw [wrStat_eq] at hW
  obtain ⟨d0, d1, d2, d3, d4, d5, d6, d7, d8, d9, d10, d11, d12⟩ := hx
  unfold St.v St.cells at hT
  clear h hc hs hk
  go_enter Tryz.func124, Tryz.ntmps124
  go_wp2_with (first | (go_at_call 125; refine hT.mono ?_; rintro e w1 ⟨rfl, h1, m1⟩; have hW' := hW _ h1) | (go_at_call 136; refine hW'.mono ?_; rintro e w2 ⟨rfl, hp⟩))
  go_end0
  exact ⟨rfl, hp.trans m1 (Grows.refl _ _)⟩
set_option maxHeartbeats 1000000 in
theorem pstat_w (bp br bx : Nat) (F : Nat → Prop) (o : Wr) (wr : Bool) (s : St) (w : World) (h : PenAt w F bp 0 o.1 br o.2 wr) (hx : ((w).cell? ⟨bx, 23, none⟩ = some (.int .u16 s.ty) ∧ (w).cell? ⟨bx, 24, none⟩ = some (.int .u32 s.dev) ∧ (w).cell? ⟨bx, 25, none⟩ = some (.int .u8 s.qt) ∧ (w).cell? ⟨bx, 26, none⟩ = some (.int .u32 s.qv) ∧ (w).cell? ⟨bx, 27, none⟩ = some (.int .u64 s.qp) ∧ (w).cell? ⟨bx, 28, none⟩ = some (.int .u32 s.mo) ∧ (w).cell? ⟨bx, 29, none⟩ = some (.int .u32 s.at_) ∧ (w).cell? ⟨bx, 30, none⟩ = some (.int .u32 s.mt) ∧ (w).cell? ⟨bx, 31, none⟩ = some (.int .u64 s.len) ∧ (w).cell? ⟨bx, 32, none⟩ = some (.string s.n) ∧ (w).cell? ⟨bx, 33, none⟩ = some (.string s.u) ∧ (w).cell? ⟨bx, 34, none⟩ = some (.string s.g) ∧ (w).cell? ⟨bx, 35, none⟩ = some (.string s.m))) (hk : s.Ok) (hs : s.n.size ≤ 262144 ∧ s.u.size ≤ 262144 ∧ s.g.size ≤ 262144 ∧ s.m.size ≤ 262144) (ho : o.1.length ≤ 8192) :
    Calls Tryz.prog 101 #[.pointer (some ⟨bp, 0, none⟩), .pointer (some ⟨bx, 23, none⟩)] w fun e w' => e = .returned (.tuple #[]) ∧ Pens w w' F bp br (wrStat o s) wr := by
  obtain ⟨W, hW⟩ : ∃ W, w.alloc (.cells #[.pointer (some ⟨bp, 0, none⟩)] 63) = W := ⟨_, rfl⟩
  have m0 : Mod (fun _ => False) w W := by subst hW; exact (Mod.refl _ _).alloc _
  have hb : W.heap[w.heap.size]? = some (.cells #[.pointer (some ⟨bp, 0, none⟩)] 63 (0, 0)) := by subst hW; exact new_at _ _
  have hb0 : W.cell? ⟨w.heap.size, 0, none⟩ = some (.pointer (some ⟨bp, 0, none⟩)) := (cell_of hb 0).trans rfl
  have hW1 := h.mod m0 (fun _ x => x.elim)
  have hx1 : ((W).cell? ⟨bx, 23, none⟩ = some (.int .u16 s.ty) ∧ (W).cell? ⟨bx, 24, none⟩ = some (.int .u32 s.dev) ∧ (W).cell? ⟨bx, 25, none⟩ = some (.int .u8 s.qt) ∧ (W).cell? ⟨bx, 26, none⟩ = some (.int .u32 s.qv) ∧ (W).cell? ⟨bx, 27, none⟩ = some (.int .u64 s.qp) ∧ (W).cell? ⟨bx, 28, none⟩ = some (.int .u32 s.mo) ∧ (W).cell? ⟨bx, 29, none⟩ = some (.int .u32 s.at_) ∧ (W).cell? ⟨bx, 30, none⟩ = some (.int .u32 s.mt) ∧ (W).cell? ⟨bx, 31, none⟩ = some (.int .u64 s.len) ∧ (W).cell? ⟨bx, 32, none⟩ = some (.string s.n) ∧ (W).cell? ⟨bx, 33, none⟩ = some (.string s.u) ∧ (W).cell? ⟨bx, 34, none⟩ = some (.string s.g) ∧ (W).cell? ⟨bx, 35, none⟩ = some (.string s.m)) := by
    obtain ⟨d0, d1, d2, d3, d4, d5, d6, d7, d8, d9, d10, d11, d12⟩ := hx
    exact ⟨keepR m0 d0, keepR m0 d1, keepR m0 d2, keepR m0 d3, keepR m0 d4, keepR m0 d5, keepR m0 d6, keepR m0 d7, keepR m0 d8, keepR m0 d9, keepR m0 d10, keepR m0 d11, keepR m0 d12⟩
  have hO := fun rf => on_stat_w bp br w.heap.size bx F o wr s rf W hW1 hx1 hb0 hk hs ho
  have M0 := Lib.hid m0
  clear h hx hx1 m0 hb hW1 hk hs
  go_enter Tryz.func101, Tryz.ntmps101
  go_wp2_with fail
  refine (hO _).mono ?_
  rintro e w2 ⟨rfl, hp⟩
  go_wp2
  go_end0
  exact ⟨rfl, hp.ahead M0.out⟩
end Go.Proofs.YtklpopmjpgdjnaaGreatDoor
