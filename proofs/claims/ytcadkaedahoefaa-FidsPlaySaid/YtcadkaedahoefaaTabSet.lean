/- Package fids's Table: Set, Drop. -/
import Derived.Test.YtcadkaedahoefaaFidWorks
namespace Go.Proofs.Ytcadkaedahoefaa
open Go.RowKit


theorem delH_none {l : HL} {x : Nat} (h : lookH l x = none) : delH l x = l := by
  unfold delH
  rw [List.filter_eq_self]
  intro p hp
  exact decide_eq_true (lookH_none.1 h p hp)
set_option maxHeartbeats 1000000 in
set_option maxRecDepth 100000 in
theorem set_any (w : World) (F : Nat → Prop) (b n x : Nat) (q : Fd) (l : HL) (most : Int) (h : TabAt w F b n l most) (hx : x < 4294967296) (hn : n < 1000000) :
    Calls Try.prog 22 #[.pointer (some ⟨b, 0, none⟩), .int .u32 x, q.v] w fun e w' => e = .returned (.int .i64 (putS l x q).2) ∧ TabAt w' F b (n + 1) (putS l x q).1 most ∧ Mod F w w' := by
  obtain ⟨W1, hW1⟩ : ∃ W1, w.alloc (.cells #[.int .u64 q.path, .string q.who, .bool q.opn, .int .u8 q.mode, .int .u64 q.next] 59) = W1 := ⟨_, rfl⟩
  have hB : W1.heap[w.heap.size]? = some (.cells #[.int .u64 q.path, .string q.who, .bool q.opn, .int .u8 q.mode, .int .u64 q.next] 59 (0, 0)) := by subst hW1; exact new_at _ _
  have m1 : Mod (fun _ => False) w W1 := by subst hW1; exact (Mod.refl _ _).alloc _
  obtain ⟨mb, h⟩ := h
  have h1 := h.mod m1 (fun _ x => x.elim)
  have hG := get_any W1 F b n x l most ⟨mb, h1⟩ hx
  have H := Lib.hid h1
  have M1 := Lib.hid m1
  clear h h1 m1
  cases hl : lookH l x with
  | none =>
    have HV : Hid (putS l x q = (l, 5)) := by show _ = _; unfold putS; rw [hl]
    have hg : getS l x = (Fd.zero, 5) := by unfold getS; rw [hl]
    rw [hg] at hG
    unfold Fd.v Fd.zero at hG
    simp only at hG
    clear hg hl
    unfold Fd.v
    go_enter Try.func22, Try.ntmps22
    go_wp2_with fail
    refine hG.mono ?_
    rintro e w2 ⟨rfl, m2⟩
    have H2 := Lib.hid (H.out.mod m2 (fun _ x => x.elim))
    have M2 := Lib.hid (M1.out.trans m2)
    clear hG m2
    go_wp2
    go_ret
    exact ⟨by rw [HV.out]; rfl, by rw [HV.out]; exact TabAt.mono ⟨mb, H2.out.mod ((Mod.refl (fun _ => False) _).alloc _) (fun _ x => x.elim)⟩ (by omega), (M2.out.alloc _).mono fun _ _ x => x.elim⟩
  | some q0 =>
    have HV : Hid (putS l x q = (setH l x q, 0)) := by show _ = _; unfold putS; rw [hl]
    have hg : getS l x = (q0, 0) := by unfold getS; rw [hl]
    rw [hg] at hG
    unfold Fd.v at hG
    simp only at hG
    have HL := Lib.hid hl
    clear hg hl
    unfold Fd.v
    go_enter Try.func22, Try.ntmps22
    go_wp2_with fail
    refine hG.mono ?_
    rintro e w2 ⟨rfl, m2⟩
    obtain ⟨W3, hW3⟩ : ∃ W3, w2.alloc (.cells #[.int .u64 q0.path, .string q0.who, .bool q0.opn, .int .u8 q0.mode, .int .u64 q0.next] 59) = W3 := ⟨_, rfl⟩
    have m3 : Mod (fun _ => False) w2 W3 := by subst hW3; exact (Mod.refl _ _).alloc _
    have hB3 := ((m2.trans m3).block w.heap.size (lt_of hB) (fun x => x)).trans hB
    have H3 := Lib.hid (H.out.mod (m2.trans m3) (fun _ x => x.elim))
    have M3 : Hid (Mod F w W3) := (M1.out.trans (m2.trans m3)).mono fun _ _ x => x.elim
    have hobj := H3.out.obj
    have c0 : (W3).cell? ⟨b, 0, none⟩ = some (.map (some mb)) := (cell_of hobj 0).trans rfl
    have c1 : (W3).cell? ⟨b, 1, none⟩ = some (.int .i64 most) := (cell_of hobj 1).trans rfl
    have b0 : (W3).cell? ⟨w.heap.size, 0, none⟩ = some (.int .u64 q.path) := (cell_of hB3 0).trans rfl
    have b1 : (W3).cell? ⟨w.heap.size, 1, none⟩ = some (.string q.who) := (cell_of hB3 1).trans rfl
    have b2 : (W3).cell? ⟨w.heap.size, 2, none⟩ = some (.bool q.opn) := (cell_of hB3 2).trans rfl
    have b3 : (W3).cell? ⟨w.heap.size, 3, none⟩ = some (.int .u8 q.mode) := (cell_of hB3 3).trans rfl
    have b4 : (W3).cell? ⟨w.heap.size, 4, none⟩ = some (.int .u64 q.next) := (cell_of hB3 4).trans rfl
    have HP : Hid (∀ U, MapH U mb n l → ∃ w', (Instr.mapUpdate 86 (.map (some mb)) (.int .u32 x) q.v).run Try.prog U = .ok () w' ∧ MapH w' mb (n + 1) (setH l x q) ∧ Mod (· = mb) U w') := fun U hU => mapH_set hU H3.out.ri hn x hx q q0 HL.out
    have HR : Hid (Rising (setH l x q)) := H3.out.ri.set x q
    obtain ⟨g, hg⟩ := pick1 W3 (fun U => HP.out U) H3.out M3.out HR.out
    have hg1 := fun k => (hg k).1
    unfold Fd.v at hg1
    have HG := Lib.hid hg
    clear hg hG m2 m3 hobj hB hB3
    go_wp2
    refine wp_region_then (k := 6) _ _ rfl rfl rfl (by kernel_rfl) (by kernel_rfl) (by kernel_rfl) ?_
    simp only [List.take_succ_cons, List.take_zero]
    repeat (go_big_quiet_step (fail))
    refine wpQuiet_nil ?_
    intro _ hw'
    obtain ⟨nq, hw''⟩ := hw'
    subst hw''
    intro K hK
    go_simp
    refine hK _ _ ?_; clear hK K
    go_wp2
    go_ret
    have hg := HG.out
    exact ⟨by rw [HV.out]; rfl, by rw [HV.out]; exact ⟨mb, (hg _).2.1⟩, (hg _).2.2⟩
set_option maxHeartbeats 1000000 in
set_option maxRecDepth 100000 in
theorem drop_any (w : World) (F : Nat → Prop) (b n x : Nat) (l : HL) (most : Int) (h : TabAt w F b n l most) (hx : x < 4294967296) :
    Calls Try.prog 24 #[.pointer (some ⟨b, 0, none⟩), .int .u32 x] w fun e w' => e = .returned (.tuple #[(getS l x).1.v, .int .i64 (getS l x).2]) ∧ TabAt w' F b n (delH l x) most ∧ Mod F w w' := by
  obtain ⟨W1, hW1⟩ : ∃ W1, w.alloc (.cells #[.int .u64 0, .string { data := #[] }, .bool false, .int .u8 0, .int .u64 0] 59) = W1 := ⟨_, rfl⟩
  obtain ⟨mb, h⟩ := h
  have m1 : Mod (fun _ => False) w W1 := by subst hW1; exact (Mod.refl _ _).alloc _
  have hr1 : W1.heap[w.heap.size]? = some (.cells #[.int .u64 0, .string { data := #[] }, .bool false, .int .u8 0, .int .u64 0] 59 (0, 0)) := by subst hW1; exact new_at _ _
  have h1 := h.mod m1 (fun _ x => x.elim)
  have hG := get_any W1 F b n x l most ⟨mb, h1⟩ hx
  have H := Lib.hid h1
  have M1 := Lib.hid m1
  have HLt := Lib.hid h.lt
  clear h h1 m1
  cases hl : lookH l x with
  | none =>
    have hg : getS l x = (Fd.zero, 5) := by unfold getS; rw [hl]
    have HD := Lib.hid (delH_none hl)
    rw [hg] at hG
    have HV := Lib.hid hg
    unfold Fd.v Fd.zero at hG
    simp only at hG
    clear hg hl
    go_enter Try.func24, Try.ntmps24
    go_wp2_with fail
    refine hG.mono ?_
    rintro e w2 ⟨rfl, m2⟩
    obtain ⟨W3, hW3⟩ : ∃ W3, w2.alloc (.cells #[.int .u64 0, .string { data := #[] }, .bool false, .int .u8 0, .int .u64 0] 59) = W3 := ⟨_, rfl⟩
    have m3 : Mod (fun _ => False) w2 W3 := by subst hW3; exact (Mod.refl _ _).alloc _
    have hB3 : W3.heap[w2.heap.size]? = some (.cells #[.int .u64 0, .string { data := #[] }, .bool false, .int .u8 0, .int .u64 0] 59 (0, 0)) := by subst hW3; exact new_at _ _
    have hr3 := ((m2.trans m3).block w.heap.size (lt_of hr1) (fun x => x)).trans hr1
    obtain ⟨a1, ha1⟩ : ∃ a1, w2.heap.size = a1 := ⟨_, rfl⟩
    rw [ha1] at hB3
    have r0 : (W3).cell? ⟨w.heap.size, 0, none⟩ = some (.int .u64 0) := (cell_of (hr3) 0).trans rfl
    have rf0 : (W3).frozen? ⟨w.heap.size, 0, none⟩ = false := free_of (hr3) 0
    have r1 : (W3).cell? ⟨w.heap.size, 1, none⟩ = some (.string { data := #[] }) := (cell_of (hr3) 1).trans rfl
    have rf1 : (W3).frozen? ⟨w.heap.size, 1, none⟩ = false := free_of (hr3) 1
    have r2 : (W3).cell? ⟨w.heap.size, 2, none⟩ = some (.bool false) := (cell_of (hr3) 2).trans rfl
    have rf2 : (W3).frozen? ⟨w.heap.size, 2, none⟩ = false := free_of (hr3) 2
    have r3 : (W3).cell? ⟨w.heap.size, 3, none⟩ = some (.int .u8 0) := (cell_of (hr3) 3).trans rfl
    have rf3 : (W3).frozen? ⟨w.heap.size, 3, none⟩ = false := free_of (hr3) 3
    have r4 : (W3).cell? ⟨w.heap.size, 4, none⟩ = some (.int .u64 0) := (cell_of (hr3) 4).trans rfl
    have rf4 : (W3).frozen? ⟨w.heap.size, 4, none⟩ = false := free_of (hr3) 4
    have e0 : W3.setCell ⟨w.heap.size, 0, none⟩ (.int .u64 0) = W3 := setCell_idn hr3 rfl
    have e1 : W3.setCell ⟨w.heap.size, 1, none⟩ (.string { data := #[] }) = W3 := setCell_idn hr3 rfl
    have e2 : W3.setCell ⟨w.heap.size, 2, none⟩ (.bool false) = W3 := setCell_idn hr3 rfl
    have e3 : W3.setCell ⟨w.heap.size, 3, none⟩ (.int .u8 0) = W3 := setCell_idn hr3 rfl
    have e4 : W3.setCell ⟨w.heap.size, 4, none⟩ (.int .u64 0) = W3 := setCell_idn hr3 rfl
    have x0 : (W3).cell? ⟨a1, 0, none⟩ = some (.int .u64 0) := (cell_of (hB3) 0).trans rfl
    have xf0 : (W3).frozen? ⟨a1, 0, none⟩ = false := free_of (hB3) 0
    have x1 : (W3).cell? ⟨a1, 1, none⟩ = some (.string { data := #[] }) := (cell_of (hB3) 1).trans rfl
    have xf1 : (W3).frozen? ⟨a1, 1, none⟩ = false := free_of (hB3) 1
    have x2 : (W3).cell? ⟨a1, 2, none⟩ = some (.bool false) := (cell_of (hB3) 2).trans rfl
    have xf2 : (W3).frozen? ⟨a1, 2, none⟩ = false := free_of (hB3) 2
    have x3 : (W3).cell? ⟨a1, 3, none⟩ = some (.int .u8 0) := (cell_of (hB3) 3).trans rfl
    have xf3 : (W3).frozen? ⟨a1, 3, none⟩ = false := free_of (hB3) 3
    have x4 : (W3).cell? ⟨a1, 4, none⟩ = some (.int .u64 0) := (cell_of (hB3) 4).trans rfl
    have xf4 : (W3).frozen? ⟨a1, 4, none⟩ = false := free_of (hB3) 4
    have d0 : W3.setCell ⟨a1, 0, none⟩ (.int .u64 0) = W3 := setCell_idn hB3 rfl
    have d1 : W3.setCell ⟨a1, 1, none⟩ (.string { data := #[] }) = W3 := setCell_idn hB3 rfl
    have d2 : W3.setCell ⟨a1, 2, none⟩ (.bool false) = W3 := setCell_idn hB3 rfl
    have d3 : W3.setCell ⟨a1, 3, none⟩ (.int .u8 0) = W3 := setCell_idn hB3 rfl
    have d4 : W3.setCell ⟨a1, 4, none⟩ (.int .u64 0) = W3 := setCell_idn hB3 rfl
    have HR3 := Lib.hid hr3
    have H3 := Lib.hid (H.out.mod (m2.trans m3) (fun _ x => x.elim))
    have M3 := Lib.hid (M1.out.trans (m2.trans m3))
    clear hG m2 m3 hr1 hr3 hB3
    go_wp2
    have hz := HR3.out
    have z0 : (W3).cell? ⟨w.heap.size, 0, none⟩ = some (.int .u64 0) := (cell_of (hz) 0).trans rfl
    have z1 : (W3).cell? ⟨w.heap.size, 1, none⟩ = some (.string { data := #[] }) := (cell_of (hz) 1).trans rfl
    have z2 : (W3).cell? ⟨w.heap.size, 2, none⟩ = some (.bool false) := (cell_of (hz) 2).trans rfl
    have z3 : (W3).cell? ⟨w.heap.size, 3, none⟩ = some (.int .u8 0) := (cell_of (hz) 3).trans rfl
    have z4 : (W3).cell? ⟨w.heap.size, 4, none⟩ = some (.int .u64 0) := (cell_of (hz) 4).trans rfl
    refine bodyPost_ret (v := .tuple #[.agg #[.int .u64 0, .string { data := #[] }, .bool false, .int .u8 0, .int .u64 0], .int .i64 5]) ?_ rfl ⟨by rw [HV.out]; rfl, by rw [HD.out]; exact ⟨mb, H3.out⟩, M3.out.mono fun _ _ x => x.elim⟩
    simp [results, Try.f24, go_sem, z0, z1, z2, z3, z4]
  | some q0 =>
    have hg : getS l x = (q0, 0) := by unfold getS; rw [hl]
    rw [hg] at hG
    have HV := Lib.hid hg
    unfold Fd.v at hG
    simp only at hG
    clear hg hl
    go_enter Try.func24, Try.ntmps24
    go_wp2_with fail
    refine hG.mono ?_
    rintro e w2 ⟨rfl, m2⟩
    obtain ⟨W3, hW3⟩ : ∃ W3, w2.alloc (.cells #[.int .u64 q0.path, .string q0.who, .bool q0.opn, .int .u8 q0.mode, .int .u64 q0.next] 59) = W3 := ⟨_, rfl⟩
    have m3 : Mod (fun _ => False) w2 W3 := by subst hW3; exact (Mod.refl _ _).alloc _
    have hB3 : W3.heap[w2.heap.size]? = some (.cells #[.int .u64 q0.path, .string q0.who, .bool q0.opn, .int .u8 q0.mode, .int .u64 q0.next] 59 (0, 0)) := by subst hW3; exact new_at _ _
    have hr3 := ((m2.trans m3).block w.heap.size (lt_of hr1) (fun x => x)).trans hr1
    have H3 := Lib.hid (H.out.mod (m2.trans m3) (fun _ x => x.elim))
    have hobj := H3.out.obj
    have c0 : (W3).cell? ⟨b, 0, none⟩ = some (.map (some mb)) := (cell_of hobj 0).trans rfl
    have c1 : (W3).cell? ⟨b, 1, none⟩ = some (.int .i64 most) := (cell_of hobj 1).trans rfl
    obtain ⟨W4, hd, hM, hm4⟩ := mapH_del H3.out.map H3.out.ri x hx
    have hmw : mb < w.heap.size := HLt.out mb H.out.fm
    have H4 := Lib.hid (H3.out.turn hm4 hM (H3.out.ri.del x))
    have hr4 := (hm4.block _ (lt_of hr3) (by omega)).trans hr3
    have hB4 := (hm4.block _ (lt_of hB3) (by have := m2.size; have := lt_of hr1; omega)).trans hB3
    have M4 : Hid (Mod F w W4) := ((M1.out.trans (m2.trans m3)).mono fun _ _ x => x.elim).trans (hm4.mono fun k _ e => by subst e; exact H.out.fm)
    have d0 : W4.cell? ⟨w2.heap.size, 0, none⟩ = some (.int .u64 q0.path) := (cell_of hB4 0).trans rfl
    have d1 : W4.cell? ⟨w2.heap.size, 1, none⟩ = some (.string q0.who) := (cell_of hB4 1).trans rfl
    have d2 : W4.cell? ⟨w2.heap.size, 2, none⟩ = some (.bool q0.opn) := (cell_of hB4 2).trans rfl
    have d3 : W4.cell? ⟨w2.heap.size, 3, none⟩ = some (.int .u8 q0.mode) := (cell_of hB4 3).trans rfl
    have d4 : W4.cell? ⟨w2.heap.size, 4, none⟩ = some (.int .u64 q0.next) := (cell_of hB4 4).trans rfl
    have r0 : (W4).cell? ⟨w.heap.size, 0, none⟩ = some (.int .u64 0) := (cell_of (hr4) 0).trans rfl
    have rf0 : (W4).frozen? ⟨w.heap.size, 0, none⟩ = false := free_of (hr4) 0
    have r1 : (W4).cell? ⟨w.heap.size, 1, none⟩ = some (.string { data := #[] }) := (cell_of (hr4) 1).trans rfl
    have rf1 : (W4).frozen? ⟨w.heap.size, 1, none⟩ = false := free_of (hr4) 1
    have r2 : (W4).cell? ⟨w.heap.size, 2, none⟩ = some (.bool false) := (cell_of (hr4) 2).trans rfl
    have rf2 : (W4).frozen? ⟨w.heap.size, 2, none⟩ = false := free_of (hr4) 2
    have r3 : (W4).cell? ⟨w.heap.size, 3, none⟩ = some (.int .u8 0) := (cell_of (hr4) 3).trans rfl
    have rf3 : (W4).frozen? ⟨w.heap.size, 3, none⟩ = false := free_of (hr4) 3
    have r4 : (W4).cell? ⟨w.heap.size, 4, none⟩ = some (.int .u64 0) := (cell_of (hr4) 4).trans rfl
    have rf4 : (W4).frozen? ⟨w.heap.size, 4, none⟩ = false := free_of (hr4) 4
    have HR4 := Lib.hid hr4
    obtain ⟨a1, ha1⟩ : ∃ a1, w2.heap.size = a1 := ⟨_, rfl⟩
    rw [ha1] at d0 d1 d2 d3 d4
    clear hobj hr1 hr3 hr4 hB3 hB4 hm4 hM m2 m3 hmw hG
    go_wp2
    obtain ⟨W6, hW6⟩ : ∃ W6, ((((((W4).setCell ⟨w.heap.size, 0, none⟩ (.int .u64 q0.path)).setCell ⟨w.heap.size, 1, none⟩ (.string q0.who)).setCell ⟨w.heap.size, 2, none⟩ (.bool q0.opn)).setCell ⟨w.heap.size, 3, none⟩ (.int .u8 q0.mode)).setCell ⟨w.heap.size, 4, none⟩ (.int .u64 q0.next)) = W6 := ⟨_, rfl⟩
    have h6 : W6.heap[w.heap.size]? = some (.cells #[.int .u64 q0.path, .string q0.who, .bool q0.opn, .int .u8 q0.mode, .int .u64 q0.next] 59 (0, 0)) := by subst hW6; exact set5 HR4.out _ _ _ _ _
    have hm6 : Mod (· = w.heap.size) W4 W6 := by subst hW6; exact mod5 _ _ _ _ _ _ _
    rw [hW6]
    have z0 : (W6).cell? ⟨w.heap.size, 0, none⟩ = some (.int .u64 q0.path) := (cell_of (h6) 0).trans rfl
    have z1 : (W6).cell? ⟨w.heap.size, 1, none⟩ = some (.string q0.who) := (cell_of (h6) 1).trans rfl
    have z2 : (W6).cell? ⟨w.heap.size, 2, none⟩ = some (.bool q0.opn) := (cell_of (h6) 2).trans rfl
    have z3 : (W6).cell? ⟨w.heap.size, 3, none⟩ = some (.int .u8 q0.mode) := (cell_of (h6) 3).trans rfl
    have z4 : (W6).cell? ⟨w.heap.size, 4, none⟩ = some (.int .u64 q0.next) := (cell_of (h6) 4).trans rfl
    refine bodyPost_ret (v := .tuple #[.agg #[.int .u64 q0.path, .string q0.who, .bool q0.opn, .int .u8 q0.mode, .int .u64 q0.next], .int .i64 0]) ?_ rfl ⟨by rw [HV.out]; rfl, ?_, M4.out.trans' hm6 (fun j hj e => by omega)⟩
    · simp [results, Try.f24, go_sem, z0, z1, z2, z3, z4]
    · exact ⟨mb, H4.out.mod hm6 (fun k hk x => by have := HLt.out k x; omega)⟩
end Go.Proofs.Ytcadkaedahoefaa
