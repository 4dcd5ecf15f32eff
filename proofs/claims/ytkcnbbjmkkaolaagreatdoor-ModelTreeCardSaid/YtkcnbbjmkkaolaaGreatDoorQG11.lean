/- The package's tree: Wstat. -/
import Derived.Test.YtkcnbbjmkkaolaaGreatDoorQG10
import Derived.Test.YtkcnbbjmkkaolaaGreatDoorQG00
set_option linter.unusedVariables false
set_option linter.unusedSimpArgs false
namespace Go.Proofs.YtkcnbbjmkkaolaaGreatDoor
open Go.RowKit

theorem mod_sub {x : Nat} {a w1 w2 : World} (h1 : Mod (· = x) a w1) (h2 : Mod (· = x) w1 w2) : Mod (· = x) a w2 := h1.trans h2
theorem four_boxes (Z : World) (p1 p2 p3 p4 : Nat) (b1 b2 b3 b4 : Bool) (h1 : BoxA Z p1 (.bool false) 4) (h2 : BoxA Z p2 (.bool false) 4) (h3 : BoxA Z p3 (.bool false) 4) (h4 : BoxA Z p4 (.bool false) 4) (d12 : p1 ≠ p2) (d13 : p1 ≠ p3) (d14 : p1 ≠ p4) (d23 : p2 ≠ p3) (d24 : p2 ≠ p4) (d34 : p3 ≠ p4) :
    ∃ U1 U2 U3 U4, Z.setCell ⟨p1, 0, none⟩ (.bool b1) = U1 ∧ U1.setCell ⟨p2, 0, none⟩ (.bool b2) = U2 ∧ U2.setCell ⟨p3, 0, none⟩ (.bool b3) = U3 ∧ U3.setCell ⟨p4, 0, none⟩ (.bool b4) = U4 ∧
      Z.cell? ⟨p1, 0, none⟩ = some (.bool false) ∧ Z.frozen? ⟨p1, 0, none⟩ = false ∧ U1.cell? ⟨p2, 0, none⟩ = some (.bool false) ∧ U1.frozen? ⟨p2, 0, none⟩ = false ∧ U2.cell? ⟨p3, 0, none⟩ = some (.bool false) ∧ U2.frozen? ⟨p3, 0, none⟩ = false ∧ U3.cell? ⟨p4, 0, none⟩ = some (.bool false) ∧ U3.frozen? ⟨p4, 0, none⟩ = false ∧
      (BoxA U4 p1 (.bool b1) 4 ∧ BoxA U4 p2 (.bool b2) 4 ∧ BoxA U4 p3 (.bool b3) 4 ∧ BoxA U4 p4 (.bool b4) 4) ∧
      Mod (fun k => k = p1 ∨ k = p2 ∨ k = p3 ∨ k = p4) Z U1 ∧ Mod (fun k => k = p1 ∨ k = p2 ∨ k = p3 ∨ k = p4) Z U2 ∧ Mod (fun k => k = p1 ∨ k = p2 ∨ k = p3 ∨ k = p4) Z U3 ∧ Mod (fun k => k = p1 ∨ k = p2 ∨ k = p3 ∨ k = p4) Z U4 := by
  have st : ∀ (W : World) (p : Nat) (b : Bool), BoxA W p (.bool false) 4 → BoxA (W.setCell ⟨p, 0, none⟩ (.bool b)) p (.bool b) 4 := fun W p b hb => heap_set hb 0 _
  have kp : ∀ (W : World) (p q : Nat) (b : Bool) (v : Value), q ≠ p → BoxA W q v 4 → BoxA (W.setCell ⟨p, 0, none⟩ (.bool b)) q v 4 := fun W p q b v hne hb => ((Mod.set1 W p 0 _).block q (lt_of hb) hne).trans hb
  have m1 := (Mod.set1 Z p1 0 (.bool b1)).mono (fun k _ (e : k = p1) => (Or.inl e : k = p1 ∨ k = p2 ∨ k = p3 ∨ k = p4))
  have m2 := m1.trans ((Mod.set1 (Z.setCell ⟨p1, 0, none⟩ (.bool b1)) p2 0 (.bool b2)).mono (fun k _ (e : k = p2) => (Or.inr (Or.inl e) : k = p1 ∨ k = p2 ∨ k = p3 ∨ k = p4)))
  have m3 := m2.trans ((Mod.set1 ((Z.setCell ⟨p1, 0, none⟩ (.bool b1)).setCell ⟨p2, 0, none⟩ (.bool b2)) p3 0 (.bool b3)).mono (fun k _ (e : k = p3) => (Or.inr (Or.inr (Or.inl e)) : k = p1 ∨ k = p2 ∨ k = p3 ∨ k = p4)))
  have m4 := m3.trans ((Mod.set1 (((Z.setCell ⟨p1, 0, none⟩ (.bool b1)).setCell ⟨p2, 0, none⟩ (.bool b2)).setCell ⟨p3, 0, none⟩ (.bool b3)) p4 0 (.bool b4)).mono (fun k _ (e : k = p4) => (Or.inr (Or.inr (Or.inr e)) : k = p1 ∨ k = p2 ∨ k = p3 ∨ k = p4)))
  have a2 := kp Z p1 p2 b1 _ d12.symm h2
  have a3 := kp _ p2 p3 b2 _ d23.symm (kp Z p1 p3 b1 _ d13.symm h3)
  have a4 := kp _ p3 p4 b3 _ d34.symm (kp _ p2 p4 b2 _ d24.symm (kp Z p1 p4 b1 _ d14.symm h4))
  refine ⟨_, _, _, _, rfl, rfl, rfl, rfl, h1.cell, free_of h1 0, a2.cell, free_of a2 0, a3.cell, free_of a3 0, a4.cell, free_of a4 0, ⟨?_, ?_, ?_, st _ p4 b4 a4⟩, m1, m2, m3, m4⟩
  · exact kp _ p4 p1 b4 _ d14 (kp _ p3 p1 b3 _ d13 (kp _ p2 p1 b2 _ d12 (st Z p1 b1 h1)))
  · exact kp _ p4 p2 b4 _ d24 (kp _ p3 p2 b3 _ d23 (st _ p2 b2 a2))
  · exact kp _ p4 p3 b4 _ d34 (st _ p3 b3 a3)
theorem pn_wf4 (a : St) (q : Nd) (vk : Value) (hmode : modeOf { q with perm := a.mo &&& 511, gid := a.g } = a.mo) : pnC (wf4 a q, vk) = ((pnC (q, vk)).set 5 (.int .u32 a.mo)).set 11 (.string a.g) := by
  unfold pnC wf4
  dsimp only
  rw [hmode]
  rfl
theorem upd_rise {L : List Nd} {p : Nat} {f : Nd → Nd} (hf : ∀ n, (f n).path = n.path) (hL : L.Pairwise fun a b => a.path < b.path) : (updN L p f).Pairwise fun a b => a.path < b.path := by
  unfold updN
  rw [List.pairwise_map]
  refine hL.imp fun hab => ?_
  have e1 : ∀ m : Nd, (if m.path = p then f m else m).path = m.path := fun m => by split; exact hf m; rfl
  rw [e1, e1]; exact hab
theorem look_upd {L : List Nd} {p : Nat} {f : Nd → Nd} (hf : ∀ n, (f n).path = n.path) {m : Nd} (h : look L p = some m) : look (updN L p f) p = some (f m) := by
  rw [upd_get hf, h]; exact congrArg some (if_pos (look_some h).2)
theorem look_upd_ne {L : List Nd} {p q : Nat} {f : Nd → Nd} (hf : ∀ n, (f n).path = n.path) (hne : q ≠ p) {m : Nd} (h : look L q = some m) : look (updN L p f) q = some m := by
  rw [upd_get hf, h]; exact congrArg some (if_neg (by rw [(look_some h).2]; exact hne))
/-- the boxes that Wstat reads behind its questions -/
structure WB (W : World) (N p1 p2 B2 B3 : Nat) (bn bl : Bool) (an ad : Nat) (s a : St) (who : ByteArray) : Prop where
  c4 : BoxA W (N + 4) (ptr an) 75
  c3 : BoxA W (N + 1 + 1 + 1) (.string who) 9
  c2 : W.heap[N + 1 + 1]? = some (stO s)
  n : BoxA W p1 (.bool bn) 4
  l : BoxA W p2 (.bool bl) 4
  a : W.heap[B2]? = some (stO a)
  d : BoxA W B3 (ptr ad) 75
  g1 : N ≤ p1
  g2 : N ≤ p2
  g3 : N ≤ B2
  g4 : N ≤ B3
theorem WB.mod {W W' : World} {N p1 p2 B2 B3 : Nat} {bn bl : Bool} {an ad : Nat} {s a : St} {who : ByteArray} (h : WB W N p1 p2 B2 B3 bn bl an ad s a who) (hm : Mod (· < N) W W') : WB W' N p1 p2 B2 B3 bn bl an ad s a who := by
  have k : ∀ {q : Nat} {o : Obj}, N ≤ q → W.heap[q]? = some o → W'.heap[q]? = some o := fun {q o} hq ho => (hm.block q (lt_of ho) (fun e => absurd (e : q < N) (by omega))).trans ho
  exact ⟨k (by omega) h.c4, k (by omega) h.c3, k (by omega) h.c2, k h.g1 h.n, k h.g2 h.l, k h.g3 h.a, k h.g4 h.d, h.g1, h.g2, h.g3, h.g4⟩
set_option maxHeartbeats 8000000 in
set_option maxRecDepth 100000 in
theorem pwstat_any {w : World} {ρ : Nat → Role} {b mb cnt : Nat} {T : Tr} {am : Nat → Nat} {vk : Nat → Value} (h : PTreeP w ρ b mb cnt T am vk) (hwf : WF T) (hTb : Tabs w) (p : Nat) (s : St) (who : ByteArray) (now : Nat) (hp : p < 18446744073709551616) (hs : s.Bd) (hsw : who.size ≤ 65536) :
    Calls Tryz.prog 33 #[.pointer (some ⟨b, 0, none⟩), .int .u64 p, .agg s.cells.toArray, .string who, .int .u32 now] w fun e w' => PXst ρ b mb cnt am vk (wstatT T p s who now) w e w' := by
  obtain ⟨W0, hW0⟩ : ∃ W0, (((w.alloc (.cells #[.pointer (some ⟨b, 0, none⟩)] 26)).alloc (.cells #[.int .u64 p] 33)).alloc (.cells s.cells.toArray 37)).alloc (.cells #[.string who] 9) = W0 := ⟨_, rfl⟩
  have hsz : W0.heap.size = w.heap.size + 4 := by subst hW0; simp
  have hb0 : BoxA W0 w.heap.size (ptr b) 26 := by subst hW0; exact alloc_keep (alloc_keep (alloc_keep (new_at _ _)))
  have hb1 : BoxA W0 (w.heap.size + 1) (.int .u64 p) 33 := by subst hW0; exact alloc_keep (alloc_keep (new_at' _ _ _ (by simp)))
  have hb2 : W0.heap[w.heap.size + 1 + 1]? = some (stO s) := by subst hW0; exact alloc_keep (new_at' _ _ _ (by simp))
  have hb3 : BoxA W0 (w.heap.size + 1 + 1 + 1) (.string who) 9 := by subst hW0; exact new_at' _ _ _ (by simp)
  have M0 : Mod (fun _ => False) w W0 := by subst hW0; exact (((((Mod.refl _ w).alloc _).alloc _).alloc _).alloc _)
  have H0 := h.mod0 M0
  have hG := pget_any H0 p hp
  have c0 : W0.cell? ⟨w.heap.size, 0, none⟩ = some (.pointer (some ⟨b, 0, none⟩)) := hb0.cell
  have c1 : W0.cell? ⟨w.heap.size + 1, 0, none⟩ = some (.int .u64 p) := hb1.cell
  cases hl : look T.L p with
  | none =>
    have e1 : ptrV T.L am p = .pointer none := by unfold ptrV; rw [hl]
    have HV : Hid (wstatT T p s who now = (T, 180)) := by show _ = _; unfold wstatT; rw [hl]
    rw [e1, hl] at hG
    simp only [Option.isSome_none, Bool.false_eq_true, if_false] at hG
    obtain ⟨W1, hW1⟩ : ∃ W1, W0.alloc (.cells #[.pointer none] 75) = W1 := ⟨_, rfl⟩
    have hn1 : W1.heap[w.heap.size + 4]? = some (.cells #[.pointer none] 75 (0, 0)) := by subst hW1; exact new_at' _ _ _ hsz.symm
    have q1 : W1.cell? ⟨w.heap.size + 4, 0, none⟩ = some (.pointer none) := (cell_of hn1 0).trans rfl
    have q2 : W1.frozen? ⟨w.heap.size + 4, 0, none⟩ = false := free_of hn1 0
    have q3 : W1.setCell ⟨w.heap.size + 4, 0, none⟩ (.pointer none) = W1 := setCell_idR hn1 rfl
    have M1 : Hid (Mod (fun _ => False) w W1) := by subst hW1; exact M0.alloc _
    have H := Lib.hid h
    clear hn1 hb0 hb1 hb2 hb3 H0 h hwf e1 hl hs hTb
    go_enter Tryz.func33, Tryz.ntmps33
    go_wp2_with fail
    clear hW0
    refine hG.mono ?_
    rintro e w1 ⟨rfl, rfl⟩
    go_wp2
    go_ret
    exact ⟨by rw [HV.out]; rfl, by rw [HV.out]; exact H.out.mod0 M1.out, M1.out.mono fun _ _ x => x.elim⟩
  | some n =>
    obtain ⟨hnm, hnp⟩ := look_some hl
    subst hnp
    have e1 : ptrV T.L am n.path = .pointer (some ⟨am n.path, 0, none⟩) := by unfold ptrV; rw [hl]
    rw [e1, hl] at hG
    simp only [Option.isSome_some, if_true] at hG
    obtain ⟨d, hd⟩ := hwf.par n hnm
    have hpd : parOf T.L n = d := by unfold parOf; rw [hd]; rfl
    obtain ⟨hdm, hdp⟩ := look_some hd
    have hno := hwf.ok n hnm
    obtain ⟨W1, hW1⟩ : ∃ W1, W0.alloc (.cells #[.pointer (some ⟨am n.path, 0, none⟩)] 75) = W1 := ⟨_, rfl⟩
    have hsz1 : W1.heap.size = w.heap.size + 5 := by subst hW1; rw [World.size_alloc, hsz]
    have hn1 : BoxA W1 (w.heap.size + 4) (ptr (am n.path)) 75 := by subst hW1; exact new_at' _ _ _ hsz.symm
    have M1 : Mod (fun _ => False) W0 W1 := by subst hW1; exact (Mod.refl _ _).alloc _
    have H1 := H0.mod0 M1
    have hTold := ptold_any (am n.path) n (vk n.path) W1 (H1.node n hnm) hno.data
    obtain ⟨i, hI⟩ : ∃ i, statOf n = i := ⟨_, rfl⟩
    rw [hI] at hTold
    have HB0 := Lib.hid (hb0.mod M1)
    have HB1 := Lib.hid (hb1.mod M1)
    have HB2 : Hid (W1.heap[w.heap.size + 1 + 1]? = some (stO s)) := (M1.block _ (lt_of hb2) (fun x => x)).trans hb2
    have HB3 := Lib.hid (hb3.mod M1)
    have HB4 := Lib.hid hn1
    have HM1 : Hid (Mod (fun _ => False) w W1) := M0.trans M1
    have HSZ1 := Lib.hid hsz1
    have Hh := Lib.hid h
    have HWF := Lib.hid hwf
    have HNm := Lib.hid hnm
    have HL := Lib.hid hl
    have HD := Lib.hid hd
    have HDm := Lib.hid hdm
    have HDp := Lib.hid hdp
    have HI := Lib.hid hI
    have HPd := Lib.hid hpd
    have HTb := Lib.hid hTb
    have HNo := Lib.hid hno
    have HS := Lib.hid hs
    have q1 : W1.cell? ⟨w.heap.size + 4, 0, none⟩ = some (.pointer (some ⟨am n.path, 0, none⟩)) := hn1.cell
    clear hb0 hb1 hb2 hb3 hn1 H0 H1 h M0 M1 hwf hnm hl hd hdm hdp hpd hTb hno e1 hs hI hsz1
    go_enter Tryz.func33, Tryz.ntmps33
    go_wp2_with fail
    clear hW0
    refine hG.mono ?_
    rintro e w1 ⟨rfl, rfl⟩
    clear hG
    go_wp2_with fail
    clear hW1
    refine hTold.mono ?_
    rintro e V ⟨rfl, mV⟩
    clear hTold c0 c1 hsz
    have MV := Lib.hid mV
    clear mV q1
    go_upto_region 5 with (refine wpl_store_row rfl 37 (.tmp 13) (.tmp 32) rfl rfl V.heap.size i.cells rfl rfl 37 _ (new_at _ _) rfl (st_one _) (by kernel_rfl) ?_; intro V1 hi1 mV1)
    have r1 : V1.rangeAt V.heap.size 0 i.cells := st_rng hi1
    have MV1 : Hid (Mod (fun _ => False) W1 V1) := MV.out.trans (((Mod.refl (fun _ => False) V).alloc _).trans' mV1 fun k hk e => by omega)
    have HB5 : Hid (V1.heap[V.heap.size]? = some (stO i)) := hi1
    have HSZV : Hid (w.heap.size + 5 ≤ V.heap.size) := by show _ ≤ _; rw [← HSZ1.out]; exact MV.out.size
    clear hi1 mV1 MV
    generalize V.heap.size = B1 at *
    clear V
    have hb2 : V1.heap[w.heap.size + 1 + 1]? = some (stO s) := (MV1.out.block _ (lt_of HB2.out) (fun x => x)).trans HB2.out
    have r2 : V1.rangeAt (w.heap.size + 1 + 1) 0 s.cells := st_rng hb2
    have hFil := pfilled_any s i V1
    obtain ⟨a, hA⟩ : ∃ a, filledS s i = a := ⟨_, rfl⟩
    rw [hA] at hFil
    have HA := Lib.hid hA
    clear hA hb2
    go_wp2_with (first | refine wpList_load_mid rfl 37 (.tmp 7) rfl (w.heap.size + 1 + 1) 0 rfl s.cells _ r2 Tryz.underlying37 rfl (by kernel_rfl) ?_ | refine wpList_load_mid rfl 37 (.tmp 13) rfl B1 0 rfl i.cells _ r1 Tryz.underlying37 rfl (by kernel_rfl) ?_)
    refine hFil.mono ?_
    rintro e V2 ⟨rfl, m2⟩
    have M2 := Lib.hid m2
    clear hFil r1 r2 m2
    go_upto_region 6 with (refine wpl_store_row rfl 37 (.tmp 14) (.tmp 35) rfl rfl V2.heap.size a.cells rfl rfl 37 _ (new_at _ _) rfl (st_one _) (by kernel_rfl) ?_; intro V3 ha3 mV3)
    have M13 : Hid (Mod (fun _ => False) V1 V3) := M2.out.trans (((Mod.refl (fun _ => False) V2).alloc _).trans' mV3 fun k hk e => by omega)
    have M03 : Hid (Mod (fun _ => False) W1 V3) := MV1.out.trans M13.out
    have HB6 : Hid (V3.heap[V2.heap.size]? = some (stO a)) := ha3
    have HB12 : Hid (B1 < V2.heap.size) := by show _ < _; have := lt_of HB5.out; have := M2.out.size; omega
    have HB5' : Hid (V3.heap[B1]? = some (stO i)) := (M13.out.block _ (lt_of HB5.out) (fun x => x)).trans HB5.out
    clear HB5 ha3 mV3 M13 MV1 M2
    generalize V2.heap.size = B2 at *
    clear V2 V1
    have H3 := Hh.out.mod0 (HM1.out.trans M03.out)
    have d0 : V3.cell? ⟨w.heap.size, 0, none⟩ = some (.pointer (some ⟨b, 0, none⟩)) := (HB0.out.mod M03.out).cell
    have d3 : V3.cell? ⟨w.heap.size + 4, 0, none⟩ = some (.pointer (some ⟨am n.path, 0, none⟩)) := (HB4.out.mod M03.out).cell
    have dm := H3.c0
    have dp : V3.cell? ⟨am n.path, 13, none⟩ = some (.int .u64 n.parent) := (cell_of (H3.node n HNm.out) 13).trans rfl
    have hlk := par_look H3 HWF.out HNm.out HD.out
    clear H3
    obtain ⟨V4, hV4⟩ : ∃ V4, (V3.alloc (.cells #[.pointer (some ⟨am d.path, 0, none⟩)] 75)).drew = V4 := ⟨_, rfl⟩
    have hb7 : BoxA V4 V3.heap.size (ptr (am d.path)) 75 := by subst hV4; exact new_at V3 _
    have m34 : Mod (fun _ => False) V3 V4 := by subst hV4; exact ((Mod.refl _ _).alloc _).drew
    have HB7 := Lib.hid hb7
    have M34 := Lib.hid m34
    have hs34 : V4.heap.size = V3.heap.size + 1 := by subst hV4; show (V3.alloc _).heap.size = _; rw [World.size_alloc]
    have HS34 := Lib.hid hs34
    clear hb7 m34 hs34
    go_upto_region 6 with (fail)
    refine wp_region_held_drew (S := fun w' => Hid (Mod (fun _ => False) V3 w')) (by kernel_rfl) (Lib.hid (Mod.refl (fun _ => False) V3).drew) (fun hHeld => ?_)
    refine hT 0 rfl (fun wH hSw => by have cH := keepN hSw.out d0; clear hSw; go_simp; all_goals with_reducible rfl) ?_
    try simp only [gA, gB, gC, Act.put, sA, sB, sC]
    refine hT 1 rfl (fun _ _ => by go_simp; all_goals with_reducible rfl) ?_
    try simp only [gA, gB, gC, Act.put, sA, sB, sC]
    refine hT 2 rfl (fun _ _ => by go_simp; all_goals with_reducible rfl) ?_
    try simp only [gA, gB, gC, Act.put, sA, sB, sC]
    refine hT 3 rfl (fun wH hSw => by have cH := keepN hSw.out dm; clear hSw; go_simp; all_goals with_reducible rfl) ?_
    try simp only [gA, gB, gC, Act.put, sA, sB, sC]
    refine hT 4 rfl (fun wH hSw => by have cH := keepN hSw.out d3; clear hSw; go_simp; all_goals with_reducible rfl) ?_
    try simp only [gA, gB, gC, Act.put, sA, sB, sC]
    refine hT 5 rfl (fun _ _ => by go_simp; all_goals with_reducible rfl) ?_
    try simp only [gA, gB, gC, Act.put, sA, sB, sC]
    refine hT 6 rfl (fun _ _ => by go_simp; all_goals with_reducible rfl) ?_
    try simp only [gA, gB, gC, Act.put, sA, sB, sC]
    refine hT 7 rfl (fun wH hSw => by have cH := keepN hSw.out dp; clear hSw; go_simp; all_goals with_reducible rfl) ?_
    try simp only [gA, gB, gC, Act.put, sA, sB, sC]
    refine hT 8 rfl (fun wH hSw => by have cH := hlk wH hSw.out; clear hSw; go_simp; all_goals with_reducible rfl) ?_
    try simp only [gA, gB, gC, Act.put, sA, sB, sC]
    refine hR1 9 rfl fun K hK => ?_
    go_simp
    have mA := hHeld.out.alloc (.cells #[.pointer none] 75)
    refine hK.out _ _ (Lib.hid (mA)) ?_; clear hK K hHeld; intro hHeld
    try simp only [gA, gB, gC, Act.put, sA, sB, sC]
    refine hR1 10 rfl fun K hK => ?_
    go_simp
    refine hK.out _ _ (Lib.hid (M34.out)) ?_; clear hK K hHeld; intro hHeld
    try simp only [gA, gB, gC, Act.put, sA, sB, sC]
    refine wpAnyH_done (by kernel_rfl) ?_ _
    clear hHeld d0 d3 dm dp hlk mA hV4
    have HB23 : Hid (B2 < V3.heap.size) := lt_of HB6.out
    have M04 : Hid (Mod (fun _ => False) W1 V4) := M03.out.trans M34.out
    have HB5 : Hid (V4.heap[B1]? = some (stO i)) := (M34.out.block _ (lt_of HB5'.out) (fun x => x)).trans HB5'.out
    have HB6' : Hid (V4.heap[B2]? = some (stO a)) := (M34.out.block _ (lt_of HB6.out) (fun x => x)).trans HB6.out
    clear HB5' HB6 M03 M34
    have HSB3 : Hid (V3.heap.size < V4.heap.size) := by show _ < _; rw [HS34.out]; omega
    clear HS34
    generalize V3.heap.size = B3 at *
    have r1 : V4.rangeAt B1 0 i.cells := st_rng HB5.out
    go_upto_region 8 with (first | refine wpList_load_mid rfl 37 (.tmp 13) rfl B1 0 rfl i.cells _ r1 Tryz.underlying37 rfl (by kernel_rfl) ?_ | (refine wpl_store_row rfl 37 (.tmp 16) (.tmp 45) rfl rfl V4.heap.size i.cells rfl rfl 37 _ (new_at _ _) rfl (st_one _) (by kernel_rfl) ?_; intro V5 h5 mV5))
    have M45 : Hid (Mod (fun _ => False) V4 V5) := (((Mod.refl (fun _ => False) V4).alloc _).trans' mV5 fun k hk e => by omega)
    have hb5 : V5.heap[B1]? = some (stO i) := (M45.out.block _ (lt_of HB5.out) (fun x => x)).trans HB5.out
    have hb6 : V5.heap[B2]? = some (stO a) := (M45.out.block _ (lt_of HB6'.out) (fun x => x)).trans HB6'.out
    have hb7 : BoxA V5 B3 (ptr (am d.path)) 75 := HB7.out.mod M45.out
    have h5 : V5.heap[V4.heap.size]? = some (stO i) := h5
    have M05 : Hid (Mod (fun _ => False) W1 V5) := M04.out.trans M45.out
    clear r1 HB5 HB6' HB7 M04 M45 mV5
    have HSB4 : Hid (V4.heap.size < V5.heap.size) := lt_of h5
    generalize V4.heap.size = B4 at *
    have hB24 : B2 ≠ B4 := by have := HB23.out; have := HSB3.out; omega
    have hB24l : B2 < B4 := by have := HB23.out; have := HSB3.out; omega
    have a9 : V5.cell? ⟨B2, 9, none⟩ = some (.string a.n) := (cell_of hb6 9).trans rfl
    have a8 : V5.cell? ⟨B2, 8, none⟩ = some (.int .u64 a.len) := (cell_of hb6 8).trans rfl
    have a5 : V5.cell? ⟨B2, 5, none⟩ = some (.int .u32 a.mo) := (cell_of hb6 5).trans rfl
    have a11 : V5.cell? ⟨B2, 11, none⟩ = some (.string a.g) := (cell_of hb6 11).trans rfl
    have a7 : V5.cell? ⟨B2, 7, none⟩ = some (.int .u32 a.mt) := (cell_of hb6 7).trans rfl
    have g5 : V5.drew.heap[B4]? = some (stO i) := h5
    obtain ⟨X1, hX1⟩ : ∃ X, V5.drew.setCell ⟨B4, 9, none⟩ (.string a.n) = X := ⟨_, rfl⟩
    have x1 : X1.heap[B4]? = some (stO { i with n := a.n }) := by rw [← hX1]; exact heap_set g5 9 _
    have y1 : Mod (· = B4) V5 X1 := by rw [← hX1]; exact ((Mod.refl _ V5).drew).trans (Mod.set1 _ _ _ _)
    obtain ⟨X2, hX2⟩ : ∃ X, X1.setCell ⟨B4, 8, none⟩ (.int .u64 a.len) = X := ⟨_, rfl⟩
    have x2 : X2.heap[B4]? = some (stO { i with n := a.n, len := a.len }) := by rw [← hX2]; exact heap_set x1 8 _
    have y2 : Mod (· = B4) V5 X2 := by rw [← hX2]; exact mod_sub y1 (Mod.set1 _ _ _ _)
    obtain ⟨X3, hX3⟩ : ∃ X, X2.setCell ⟨B4, 5, none⟩ (.int .u32 a.mo) = X := ⟨_, rfl⟩
    have x3 : X3.heap[B4]? = some (stO { i with n := a.n, len := a.len, mo := a.mo }) := by rw [← hX3]; exact heap_set x2 5 _
    have y3 : Mod (· = B4) V5 X3 := by rw [← hX3]; exact mod_sub y2 (Mod.set1 _ _ _ _)
    obtain ⟨X4, hX4⟩ : ∃ X, X3.setCell ⟨B4, 11, none⟩ (.string a.g) = X := ⟨_, rfl⟩
    have x4 : X4.heap[B4]? = some (stO { i with n := a.n, len := a.len, mo := a.mo, g := a.g }) := by rw [← hX4]; exact heap_set x3 11 _
    have y4 : Mod (· = B4) V5 X4 := by rw [← hX4]; exact mod_sub y3 (Mod.set1 _ _ _ _)
    obtain ⟨X5, hX5⟩ : ∃ X, X4.setCell ⟨B4, 7, none⟩ (.int .u32 a.mt) = X := ⟨_, rfl⟩
    have x5 : X5.heap[B4]? = some (stO (sameS a i)) := by rw [← hX5]; exact heap_set x4 7 _
    have y5 : Mod (· = B4) V5 X5 := by rw [← hX5]; exact mod_sub y4 (Mod.set1 _ _ _ _)
    have s1c := (cell_of h5 9).trans rfl
    have s1f := free_of h5 9
    have s2f := free_of x1 8
    have s3f := free_of x2 5
    have s4f := free_of x3 11
    have s5f := free_of x4 7
    have t1 : V5.cell? ⟨B4, 9, none⟩ = some (.string i.n) := (cell_of h5 9).trans rfl
    have t2 : X1.cell? ⟨B4, 8, none⟩ = some (.int .u64 i.len) := (cell_of x1 8).trans rfl
    have t3 : X2.cell? ⟨B4, 5, none⟩ = some (.int .u32 i.mo) := (cell_of x2 5).trans rfl
    have t4 : X3.cell? ⟨B4, 11, none⟩ = some (.string i.g) := (cell_of x3 11).trans rfl
    have t5 : X4.cell? ⟨B4, 7, none⟩ = some (.int .u32 i.mt) := (cell_of x4 7).trans rfl
    have HX5 := Lib.hid x5
    have HB5 := Lib.hid hb5
    have HB6 := Lib.hid hb6
    have HB7 := Lib.hid hb7
    have Y1 := Lib.hid y1
    have Y2 := Lib.hid y2
    have Y3 := Lib.hid y3
    have Y4 := Lib.hid y4
    have Y5 := Lib.hid y5
    clear x1 x2 x3 x4 x5 y1 y2 y3 y4 y5 hb5 hb6 hb7 h5 g5 s1c
    refine wp_region_held_drew (S := fun w' => Hid (Mod (· = B4) V5 w')) (by kernel_rfl) (Lib.hid (Mod.refl (· = B4) V5).drew) (fun hHeld => ?_)
    refine hT 0 rfl (fun _ _ => by go_simp; all_goals with_reducible rfl) ?_
    try simp only [gA, gB, gC, Act.put, sA, sB, sC]
    refine hT 1 rfl (fun wH hSw => by have cH := keepX hSw.out (by omega) a9; clear hSw; go_simp; all_goals with_reducible rfl) ?_
    try simp only [gA, gB, gC, Act.put, sA, sB, sC]
    refine hT 2 rfl (fun _ _ => by go_simp; all_goals with_reducible rfl) ?_
    try simp only [gA, gB, gC, Act.put, sA, sB, sC]
    refine hT 3 rfl (fun wH hSw => by have cH := keepX hSw.out (by omega) a8; clear hSw; go_simp; all_goals with_reducible rfl) ?_
    try simp only [gA, gB, gC, Act.put, sA, sB, sC]
    refine hT 4 rfl (fun _ _ => by go_simp; all_goals with_reducible rfl) ?_
    try simp only [gA, gB, gC, Act.put, sA, sB, sC]
    refine hT 5 rfl (fun wH hSw => by have cH := keepX hSw.out (by omega) a5; clear hSw; go_simp; all_goals with_reducible rfl) ?_
    try simp only [gA, gB, gC, Act.put, sA, sB, sC]
    refine hT 6 rfl (fun _ _ => by go_simp; all_goals with_reducible rfl) ?_
    try simp only [gA, gB, gC, Act.put, sA, sB, sC]
    refine hT 7 rfl (fun wH hSw => by have cH := keepX hSw.out (by omega) a11; clear hSw; go_simp; all_goals with_reducible rfl) ?_
    try simp only [gA, gB, gC, Act.put, sA, sB, sC]
    refine hT 8 rfl (fun _ _ => by go_simp; all_goals with_reducible rfl) ?_
    try simp only [gA, gB, gC, Act.put, sA, sB, sC]
    refine hT 9 rfl (fun wH hSw => by have cH := keepX hSw.out (by omega) a7; clear hSw; go_simp; all_goals with_reducible rfl) ?_
    try simp only [gA, gB, gC, Act.put, sA, sB, sC]
    refine hT 10 rfl (fun _ _ => by go_simp; all_goals with_reducible rfl) ?_
    try simp only [gA, gB, gC, Act.put, sA, sB, sC]
    refine hR1 11 rfl fun K hK => ?_
    go_simp
    refine hK.out _ _ (Lib.hid (Y1.out)) ?_; clear hK K hHeld; intro hHeld
    try simp only [gA, gB, gC, Act.put, sA, sB, sC]
    refine hT 12 rfl (fun _ _ => by go_simp; all_goals with_reducible rfl) ?_
    try simp only [gA, gB, gC, Act.put, sA, sB, sC]
    refine hR1 13 rfl fun K hK => ?_
    go_simp
    refine hK.out _ _ (Lib.hid (Y2.out)) ?_; clear hK K hHeld; intro hHeld
    try simp only [gA, gB, gC, Act.put, sA, sB, sC]
    refine hT 14 rfl (fun _ _ => by go_simp; all_goals with_reducible rfl) ?_
    try simp only [gA, gB, gC, Act.put, sA, sB, sC]
    refine hR1 15 rfl fun K hK => ?_
    go_simp
    refine hK.out _ _ (Lib.hid (Y3.out)) ?_; clear hK K hHeld; intro hHeld
    try simp only [gA, gB, gC, Act.put, sA, sB, sC]
    refine hT 16 rfl (fun _ _ => by go_simp; all_goals with_reducible rfl) ?_
    try simp only [gA, gB, gC, Act.put, sA, sB, sC]
    refine hR1 17 rfl fun K hK => ?_
    go_simp
    refine hK.out _ _ (Lib.hid (Y4.out)) ?_; clear hK K hHeld; intro hHeld
    try simp only [gA, gB, gC, Act.put, sA, sB, sC]
    refine hT 18 rfl (fun _ _ => by go_simp; all_goals with_reducible rfl) ?_
    try simp only [gA, gB, gC, Act.put, sA, sB, sC]
    refine hR1 19 rfl fun K hK => ?_
    go_simp
    refine hK.out _ _ (Lib.hid (Y5.out)) ?_; clear hK K hHeld; intro hHeld
    try simp only [gA, gB, gC, Act.put, sA, sB, sC]
    refine wpAnyH_done (by kernel_rfl) ?_ _
    clear hHeld t1 t2 t3 t4 t5 s1f s2f s3f s4f s5f hX1 hX2 hX3 hX4 hX5 Y1 Y2 Y3 Y4 a9 a8 a5 a11 a7
    clear X1 X2 X3 X4
    go_upto_region 9 with (fail)
    have c9 : X5.cell? ⟨B2, 9, none⟩ = some (.string a.n) := keepX Y5.out (by omega) ((cell_of HB6.out 9).trans rfl)
    have c8 : X5.cell? ⟨B2, 8, none⟩ = some (.int .u64 a.len) := keepX Y5.out (by omega) ((cell_of HB6.out 8).trans rfl)
    have c5 : X5.cell? ⟨B2, 5, none⟩ = some (.int .u32 a.mo) := keepX Y5.out (by omega) ((cell_of HB6.out 5).trans rfl)
    have c11 : X5.cell? ⟨B2, 11, none⟩ = some (.string a.g) := keepX Y5.out (by omega) ((cell_of HB6.out 11).trans rfl)
    have hB14 : B1 ≠ B4 := by have := HB12.out; omega
    have d9 : X5.cell? ⟨B1, 9, none⟩ = some (.string i.n) := keepX Y5.out (by omega) ((cell_of HB5.out 9).trans rfl)
    have d8 : X5.cell? ⟨B1, 8, none⟩ = some (.int .u64 i.len) := keepX Y5.out (by omega) ((cell_of HB5.out 8).trans rfl)
    have d5 : X5.cell? ⟨B1, 5, none⟩ = some (.int .u32 i.mo) := keepX Y5.out (by omega) ((cell_of HB5.out 5).trans rfl)
    have d11 : X5.cell? ⟨B1, 11, none⟩ = some (.string i.g) := keepX Y5.out (by omega) ((cell_of HB5.out 11).trans rfl)
    obtain ⟨bn, hbn⟩ : ∃ bn, bn = decide (a.n ≠ i.n) := ⟨_, rfl⟩
    obtain ⟨bl, hbl⟩ : ∃ bn, bn = decide (a.len ≠ i.len) := ⟨_, rfl⟩
    obtain ⟨bm, hbm⟩ : ∃ bn, bn = decide (a.mo ≠ i.mo) := ⟨_, rfl⟩
    obtain ⟨bg, hbg⟩ : ∃ bn, bn = decide (a.g ≠ i.g) := ⟨_, rfl⟩
    have tn : (a.n.toList == i.n.toList) = !bn := by rw [hbn, Bool.eq_iff_iff]; simp; exact ⟨toList_inj, fun e => by rw [e]⟩
    have tl : ((a.len : Int) != (i.len : Int)) = bl := by rw [hbl, Bool.eq_iff_iff]; simp; omega
    have tm : ((a.mo : Int) != (i.mo : Int)) = bm := by rw [hbm, Bool.eq_iff_iff]; simp; omega
    have tg : (a.g.toList == i.g.toList) = !bg := by rw [hbg, Bool.eq_iff_iff]; simp; exact ⟨toList_inj, fun e => by rw [e]⟩
    have HBN := Lib.hid hbn
    have HBL := Lib.hid hbl
    have HBM := Lib.hid hbm
    have HBG := Lib.hid hbg
    clear hbn hbl hbm hbg
    obtain ⟨sz, hsz⟩ : ∃ sz, X5.heap.size = sz := ⟨_, rfl⟩
    have hB4s : B4 < sz := by rw [← hsz]; exact lt_of HX5.out
    go_cut [17, 18, 19, 20] from 61 to 80 (fun v1 v2 v3 v4 wc => ∃ p1 p2 p3 p4, v1 = .pointer (some ⟨p1, 0, none⟩) ∧ v2 = .pointer (some ⟨p2, 0, none⟩) ∧ v3 = .pointer (some ⟨p3, 0, none⟩) ∧ v4 = .pointer (some ⟨p4, 0, none⟩) ∧ Hid (BoxA wc p1 (.bool bn) 4) ∧ Hid (BoxA wc p2 (.bool bl) 4) ∧ Hid (BoxA wc p3 (.bool bm) 4) ∧ Hid (BoxA wc p4 (.bool bg) 4) ∧ Hid (B4 < p1 ∧ B4 < p2 ∧ B4 < p3 ∧ B4 < p4) ∧ Hid (Mod (fun _ => False) X5 wc))
    case first =>
      obtain ⟨Z1, hZ1⟩ : ∃ Z, X5.drew.alloc (.cells #[.bool false] 4) = Z := ⟨_, rfl⟩
      have z1 : Z1.heap.size = sz + 1 := by rw [← hZ1, World.size_alloc, ← hsz]; rfl
      obtain ⟨Z2, hZ2⟩ : ∃ Z, Z1.alloc (.cells #[.bool false] 4) = Z := ⟨_, rfl⟩
      have z2 : Z2.heap.size = sz + 2 := by rw [← hZ2, World.size_alloc, z1]
      obtain ⟨Z3, hZ3⟩ : ∃ Z, Z2.alloc (.cells #[.bool false] 4) = Z := ⟨_, rfl⟩
      have z3 : Z3.heap.size = sz + 3 := by rw [← hZ3, World.size_alloc, z2]
      obtain ⟨Z4, hZ4⟩ : ∃ Z, Z3.alloc (.cells #[.bool false] 4) = Z := ⟨_, rfl⟩
      have z4 : Z4.heap.size = sz + 4 := by rw [← hZ4, World.size_alloc, z3]
      have mz1 : Mod (fun _ => False) X5 Z1 := by rw [← hZ1]; exact ((Mod.refl _ X5).drew).alloc _
      have mz2 : Mod (fun _ => False) X5 Z2 := by rw [← hZ2]; exact mz1.alloc _
      have mz3 : Mod (fun _ => False) X5 Z3 := by rw [← hZ3]; exact mz2.alloc _
      have mz4 : Mod (fun _ => False) X5 Z4 := by rw [← hZ4]; exact mz3.alloc _
      have G0 : Hid (BoxA Z4 sz (.bool false) 4) := by show BoxA _ _ _ _; rw [← hZ4, ← hZ3, ← hZ2, ← hZ1]; exact alloc_keep (alloc_keep (alloc_keep (new_at' X5.drew _ _ hsz.symm)))
      have G1 : Hid (BoxA Z4 (sz + 1) (.bool false) 4) := by show BoxA _ _ _ _; rw [← hZ4, ← hZ3, ← hZ2]; exact alloc_keep (alloc_keep (new_at' _ _ _ z1.symm))
      have G2 : Hid (BoxA Z4 (sz + 2) (.bool false) 4) := by show BoxA _ _ _ _; rw [← hZ4, ← hZ3]; exact alloc_keep (new_at' _ _ _ z2.symm)
      have G3 : Hid (BoxA Z4 (sz + 3) (.bool false) 4) := by show BoxA _ _ _ _; rw [← hZ4]; exact new_at' _ _ _ z3.symm
      have MZ1 := Lib.hid mz1
      have MZ2 := Lib.hid mz2
      have MZ3 := Lib.hid mz3
      have MZ4 := Lib.hid mz4
      clear mz1 mz2 mz3 mz4
      refine wp_region_held_drew (S := fun w' => Hid (Mod (fun _ => False) X5 w')) (by kernel_rfl) (Lib.hid (Mod.refl (fun _ => False) X5).drew) (fun hHeld => ?_)
      refine hT 0 rfl (fun _ _ => by go_simp; all_goals with_reducible rfl) ?_
      try simp only [gA, gB, gC, Act.put, sA, sB, sC]
      refine hT 1 rfl (fun wH hSw => by have cH := keepN hSw.out c9; clear hSw; go_simp; all_goals with_reducible rfl) ?_
      try simp only [gA, gB, gC, Act.put, sA, sB, sC]
      refine hT 2 rfl (fun _ _ => by go_simp; all_goals with_reducible rfl) ?_
      try simp only [gA, gB, gC, Act.put, sA, sB, sC]
      refine hT 3 rfl (fun wH hSw => by have cH := keepN hSw.out d9; clear hSw; go_simp; all_goals with_reducible rfl) ?_
      try simp only [gA, gB, gC, Act.put, sA, sB, sC]
      refine hT 4 rfl (fun _ _ => by go_simp; all_goals with_reducible rfl) ?_
      try simp only [gA, gB, gC, Act.put, sA, sB, sC]
      refine hT 5 rfl (fun _ _ => by go_simp; all_goals with_reducible rfl) ?_
      try simp only [gA, gB, gC, Act.put, sA, sB, sC]
      refine hT 6 rfl (fun wH hSw => by have cH := keepN hSw.out c8; clear hSw; go_simp; all_goals with_reducible rfl) ?_
      try simp only [gA, gB, gC, Act.put, sA, sB, sC]
      refine hT 7 rfl (fun _ _ => by go_simp; all_goals with_reducible rfl) ?_
      try simp only [gA, gB, gC, Act.put, sA, sB, sC]
      refine hT 8 rfl (fun wH hSw => by have cH := keepN hSw.out d8; clear hSw; go_simp; all_goals with_reducible rfl) ?_
      try simp only [gA, gB, gC, Act.put, sA, sB, sC]
      refine hT 9 rfl (fun _ _ => by go_simp; all_goals with_reducible rfl) ?_
      try simp only [gA, gB, gC, Act.put, sA, sB, sC]
      refine hT 10 rfl (fun _ _ => by go_simp; all_goals with_reducible rfl) ?_
      try simp only [gA, gB, gC, Act.put, sA, sB, sC]
      refine hT 11 rfl (fun wH hSw => by have cH := keepN hSw.out c5; clear hSw; go_simp; all_goals with_reducible rfl) ?_
      try simp only [gA, gB, gC, Act.put, sA, sB, sC]
      refine hT 12 rfl (fun _ _ => by go_simp; all_goals with_reducible rfl) ?_
      try simp only [gA, gB, gC, Act.put, sA, sB, sC]
      refine hT 13 rfl (fun wH hSw => by have cH := keepN hSw.out d5; clear hSw; go_simp; all_goals with_reducible rfl) ?_
      try simp only [gA, gB, gC, Act.put, sA, sB, sC]
      refine hT 14 rfl (fun _ _ => by go_simp; all_goals with_reducible rfl) ?_
      try simp only [gA, gB, gC, Act.put, sA, sB, sC]
      refine hT 15 rfl (fun _ _ => by go_simp; all_goals with_reducible rfl) ?_
      try simp only [gA, gB, gC, Act.put, sA, sB, sC]
      refine hT 16 rfl (fun wH hSw => by have cH := keepN hSw.out c11; clear hSw; go_simp; all_goals with_reducible rfl) ?_
      try simp only [gA, gB, gC, Act.put, sA, sB, sC]
      refine hT 17 rfl (fun _ _ => by go_simp; all_goals with_reducible rfl) ?_
      try simp only [gA, gB, gC, Act.put, sA, sB, sC]
      refine hT 18 rfl (fun wH hSw => by have cH := keepN hSw.out d11; clear hSw; go_simp; all_goals with_reducible rfl) ?_
      try simp only [gA, gB, gC, Act.put, sA, sB, sC]
      refine hT 19 rfl (fun _ _ => by go_simp; all_goals with_reducible rfl) ?_
      try simp only [gA, gB, gC, Act.put, sA, sB, sC]
      clear c9 c8 c5 c11 d9 d8 d5 d11 tn tl tm tg
      refine wpAnyH_ready (rs := [20, 21, 22, 23]) (by kernel_rfl) (by simp) ?_
      refine AllReadyH.cons rfl (fun K hK => ?_) (AllReadyH.cons rfl (fun K hK => ?_) (AllReadyH.cons rfl (fun K hK => ?_) (AllReadyH.cons rfl (fun K hK => ?_) AllReadyH.nil)))
      · go_simp
        refine hK.out _ _ (Lib.hid (MZ1.out)) ?_; clear hK K hHeld; intro hHeld
        try simp only [gA, gB, gC, Act.put, sA, sB, sC]
        refine wpAnyH_ready (rs := [21, 22, 23]) (by kernel_rfl) (by simp) ?_
        refine AllReadyH.cons rfl (fun K hK => ?_) (AllReadyH.cons rfl (fun K hK => ?_) (AllReadyH.cons rfl (fun K hK => ?_) AllReadyH.nil))
        · go_simp
          refine hK.out _ _ (Lib.hid (MZ2.out)) ?_; clear hK K hHeld; intro hHeld
          try simp only [gA, gB, gC, Act.put, sA, sB, sC]
          refine wpAnyH_ready (rs := [22, 23]) (by kernel_rfl) (by simp) ?_
          refine AllReadyH.cons rfl (fun K hK => ?_) (AllReadyH.cons rfl (fun K hK => ?_) AllReadyH.nil)
          · go_simp
            refine hK.out _ _ (Lib.hid (MZ3.out)) ?_; clear hK K hHeld; intro hHeld
            try simp only [gA, gB, gC, Act.put, sA, sB, sC]
            refine hR1 23 rfl fun K hK => ?_
            go_simp
            refine hK.out _ _ (Lib.hid (MZ4.out)) ?_; clear hK K hHeld; intro hHeld
            try simp only [gA, gB, gC, Act.put, sA, sB, sC]
            obtain ⟨U1, U2, U3, U4, us1, us2, us3, us4, k1, f1, k2, f2, k3, f3, k4, f4, j0, m1, m2, m3, m4⟩ := four_boxes Z4 (sz) (sz + 1) (sz + 2) (sz + 3) bn bl bm bg G0.out G1.out G2.out G3.out (by omega) (by omega) (by omega) (by omega) (by omega) (by omega)
            have J := Lib.hid j0
            have n1 : Hid (Mod (fun _ => False) X5 U1) := MZ4.out.trans' m1 fun k hk e => by omega
            have n2 : Hid (Mod (fun _ => False) X5 U2) := MZ4.out.trans' m2 fun k hk e => by omega
            have n3 : Hid (Mod (fun _ => False) X5 U3) := MZ4.out.trans' m3 fun k hk e => by omega
            have n4 : Hid (Mod (fun _ => False) X5 U4) := MZ4.out.trans' m4 fun k hk e => by omega
            clear j0 m1 m2 m3 m4
            refine hR1 24 rfl fun K hK => ?_
            go_simp
            refine hK.out _ _ (Lib.hid (n1.out)) ?_; clear hK K hHeld; intro hHeld
            try simp only [gA, gB, gC, Act.put, sA, sB, sC]
            refine hR1 25 rfl fun K hK => ?_
            go_simp
            refine hK.out _ _ (Lib.hid (n2.out)) ?_; clear hK K hHeld; intro hHeld
            try simp only [gA, gB, gC, Act.put, sA, sB, sC]
            refine hR1 26 rfl fun K hK => ?_
            go_simp
            refine hK.out _ _ (Lib.hid (n3.out)) ?_; clear hK K hHeld; intro hHeld
            try simp only [gA, gB, gC, Act.put, sA, sB, sC]
            refine hR1 27 rfl fun K hK => ?_
            go_simp
            refine hK.out _ _ (Lib.hid (n4.out)) ?_; clear hK K hHeld; intro hHeld
            try simp only [gA, gB, gC, Act.put, sA, sB, sC]
            refine wpAnyH_done (by kernel_rfl) ?_ _
            go_wp2
            go_meet
            case rel => exact ⟨sz, sz + 1, sz + 2, sz + 3, rfl, rfl, rfl, rfl, J.out.1, J.out.2.1, J.out.2.2.1, J.out.2.2.2, ⟨by omega, by omega, by omega, by omega⟩, n4.out⟩
          · go_simp
            refine hK.out _ _ (Lib.hid (MZ3.out)) ?_; clear hK K hHeld; intro hHeld
            try simp only [gA, gB, gC, Act.put, sA, sB, sC]
            refine hR1 22 rfl fun K hK => ?_
            go_simp
            refine hK.out _ _ (Lib.hid (MZ4.out)) ?_; clear hK K hHeld; intro hHeld
            try simp only [gA, gB, gC, Act.put, sA, sB, sC]
            obtain ⟨U1, U2, U3, U4, us1, us2, us3, us4, k1, f1, k2, f2, k3, f3, k4, f4, j0, m1, m2, m3, m4⟩ := four_boxes Z4 (sz) (sz + 1) (sz + 3) (sz + 2) bn bl bm bg G0.out G1.out G3.out G2.out (by omega) (by omega) (by omega) (by omega) (by omega) (by omega)
            have J := Lib.hid j0
            have n1 : Hid (Mod (fun _ => False) X5 U1) := MZ4.out.trans' m1 fun k hk e => by omega
            have n2 : Hid (Mod (fun _ => False) X5 U2) := MZ4.out.trans' m2 fun k hk e => by omega
            have n3 : Hid (Mod (fun _ => False) X5 U3) := MZ4.out.trans' m3 fun k hk e => by omega
            have n4 : Hid (Mod (fun _ => False) X5 U4) := MZ4.out.trans' m4 fun k hk e => by omega
            clear j0 m1 m2 m3 m4
            refine hR1 24 rfl fun K hK => ?_
            go_simp
            refine hK.out _ _ (Lib.hid (n1.out)) ?_; clear hK K hHeld; intro hHeld
            try simp only [gA, gB, gC, Act.put, sA, sB, sC]
            refine hR1 25 rfl fun K hK => ?_
            go_simp
            refine hK.out _ _ (Lib.hid (n2.out)) ?_; clear hK K hHeld; intro hHeld
            try simp only [gA, gB, gC, Act.put, sA, sB, sC]
            refine hR1 26 rfl fun K hK => ?_
            go_simp
            refine hK.out _ _ (Lib.hid (n3.out)) ?_; clear hK K hHeld; intro hHeld
            try simp only [gA, gB, gC, Act.put, sA, sB, sC]
            refine hR1 27 rfl fun K hK => ?_
            go_simp
            refine hK.out _ _ (Lib.hid (n4.out)) ?_; clear hK K hHeld; intro hHeld
            try simp only [gA, gB, gC, Act.put, sA, sB, sC]
            refine wpAnyH_done (by kernel_rfl) ?_ _
            go_wp2
            go_meet
            case rel => exact ⟨sz, sz + 1, sz + 3, sz + 2, rfl, rfl, rfl, rfl, J.out.1, J.out.2.1, J.out.2.2.1, J.out.2.2.2, ⟨by omega, by omega, by omega, by omega⟩, n4.out⟩
        · go_simp
          refine hK.out _ _ (Lib.hid (MZ2.out)) ?_; clear hK K hHeld; intro hHeld
          try simp only [gA, gB, gC, Act.put, sA, sB, sC]
          refine wpAnyH_ready (rs := [21, 23]) (by kernel_rfl) (by simp) ?_
          refine AllReadyH.cons rfl (fun K hK => ?_) (AllReadyH.cons rfl (fun K hK => ?_) AllReadyH.nil)
          · go_simp
            refine hK.out _ _ (Lib.hid (MZ3.out)) ?_; clear hK K hHeld; intro hHeld
            try simp only [gA, gB, gC, Act.put, sA, sB, sC]
            refine hR1 23 rfl fun K hK => ?_
            go_simp
            refine hK.out _ _ (Lib.hid (MZ4.out)) ?_; clear hK K hHeld; intro hHeld
            try simp only [gA, gB, gC, Act.put, sA, sB, sC]
            obtain ⟨U1, U2, U3, U4, us1, us2, us3, us4, k1, f1, k2, f2, k3, f3, k4, f4, j0, m1, m2, m3, m4⟩ := four_boxes Z4 (sz) (sz + 2) (sz + 1) (sz + 3) bn bl bm bg G0.out G2.out G1.out G3.out (by omega) (by omega) (by omega) (by omega) (by omega) (by omega)
            have J := Lib.hid j0
            have n1 : Hid (Mod (fun _ => False) X5 U1) := MZ4.out.trans' m1 fun k hk e => by omega
            have n2 : Hid (Mod (fun _ => False) X5 U2) := MZ4.out.trans' m2 fun k hk e => by omega
            have n3 : Hid (Mod (fun _ => False) X5 U3) := MZ4.out.trans' m3 fun k hk e => by omega
            have n4 : Hid (Mod (fun _ => False) X5 U4) := MZ4.out.trans' m4 fun k hk e => by omega
            clear j0 m1 m2 m3 m4
            refine hR1 24 rfl fun K hK => ?_
            go_simp
            refine hK.out _ _ (Lib.hid (n1.out)) ?_; clear hK K hHeld; intro hHeld
            try simp only [gA, gB, gC, Act.put, sA, sB, sC]
            refine hR1 25 rfl fun K hK => ?_
            go_simp
            refine hK.out _ _ (Lib.hid (n2.out)) ?_; clear hK K hHeld; intro hHeld
            try simp only [gA, gB, gC, Act.put, sA, sB, sC]
            refine hR1 26 rfl fun K hK => ?_
            go_simp
            refine hK.out _ _ (Lib.hid (n3.out)) ?_; clear hK K hHeld; intro hHeld
            try simp only [gA, gB, gC, Act.put, sA, sB, sC]
            refine hR1 27 rfl fun K hK => ?_
            go_simp
            refine hK.out _ _ (Lib.hid (n4.out)) ?_; clear hK K hHeld; intro hHeld
            try simp only [gA, gB, gC, Act.put, sA, sB, sC]
            refine wpAnyH_done (by kernel_rfl) ?_ _
            go_wp2
            go_meet
            case rel => exact ⟨sz, sz + 2, sz + 1, sz + 3, rfl, rfl, rfl, rfl, J.out.1, J.out.2.1, J.out.2.2.1, J.out.2.2.2, ⟨by omega, by omega, by omega, by omega⟩, n4.out⟩
          · go_simp
            refine hK.out _ _ (Lib.hid (MZ3.out)) ?_; clear hK K hHeld; intro hHeld
            try simp only [gA, gB, gC, Act.put, sA, sB, sC]
            refine hR1 21 rfl fun K hK => ?_
            go_simp
            refine hK.out _ _ (Lib.hid (MZ4.out)) ?_; clear hK K hHeld; intro hHeld
            try simp only [gA, gB, gC, Act.put, sA, sB, sC]
            obtain ⟨U1, U2, U3, U4, us1, us2, us3, us4, k1, f1, k2, f2, k3, f3, k4, f4, j0, m1, m2, m3, m4⟩ := four_boxes Z4 (sz) (sz + 3) (sz + 1) (sz + 2) bn bl bm bg G0.out G3.out G1.out G2.out (by omega) (by omega) (by omega) (by omega) (by omega) (by omega)
            have J := Lib.hid j0
            have n1 : Hid (Mod (fun _ => False) X5 U1) := MZ4.out.trans' m1 fun k hk e => by omega
            have n2 : Hid (Mod (fun _ => False) X5 U2) := MZ4.out.trans' m2 fun k hk e => by omega
            have n3 : Hid (Mod (fun _ => False) X5 U3) := MZ4.out.trans' m3 fun k hk e => by omega
            have n4 : Hid (Mod (fun _ => False) X5 U4) := MZ4.out.trans' m4 fun k hk e => by omega
            clear j0 m1 m2 m3 m4
            refine hR1 24 rfl fun K hK => ?_
            go_simp
            refine hK.out _ _ (Lib.hid (n1.out)) ?_; clear hK K hHeld; intro hHeld
            try simp only [gA, gB, gC, Act.put, sA, sB, sC]
            refine hR1 25 rfl fun K hK => ?_
            go_simp
            refine hK.out _ _ (Lib.hid (n2.out)) ?_; clear hK K hHeld; intro hHeld
            try simp only [gA, gB, gC, Act.put, sA, sB, sC]
            refine hR1 26 rfl fun K hK => ?_
            go_simp
            refine hK.out _ _ (Lib.hid (n3.out)) ?_; clear hK K hHeld; intro hHeld
            try simp only [gA, gB, gC, Act.put, sA, sB, sC]
            refine hR1 27 rfl fun K hK => ?_
            go_simp
            refine hK.out _ _ (Lib.hid (n4.out)) ?_; clear hK K hHeld; intro hHeld
            try simp only [gA, gB, gC, Act.put, sA, sB, sC]
            refine wpAnyH_done (by kernel_rfl) ?_ _
            go_wp2
            go_meet
            case rel => exact ⟨sz, sz + 3, sz + 1, sz + 2, rfl, rfl, rfl, rfl, J.out.1, J.out.2.1, J.out.2.2.1, J.out.2.2.2, ⟨by omega, by omega, by omega, by omega⟩, n4.out⟩
        · go_simp
          refine hK.out _ _ (Lib.hid (MZ2.out)) ?_; clear hK K hHeld; intro hHeld
          try simp only [gA, gB, gC, Act.put, sA, sB, sC]
          refine wpAnyH_ready (rs := [21, 22]) (by kernel_rfl) (by simp) ?_
          refine AllReadyH.cons rfl (fun K hK => ?_) (AllReadyH.cons rfl (fun K hK => ?_) AllReadyH.nil)
          · go_simp
            refine hK.out _ _ (Lib.hid (MZ3.out)) ?_; clear hK K hHeld; intro hHeld
            try simp only [gA, gB, gC, Act.put, sA, sB, sC]
            refine hR1 22 rfl fun K hK => ?_
            go_simp
            refine hK.out _ _ (Lib.hid (MZ4.out)) ?_; clear hK K hHeld; intro hHeld
            try simp only [gA, gB, gC, Act.put, sA, sB, sC]
            obtain ⟨U1, U2, U3, U4, us1, us2, us3, us4, k1, f1, k2, f2, k3, f3, k4, f4, j0, m1, m2, m3, m4⟩ := four_boxes Z4 (sz) (sz + 2) (sz + 3) (sz + 1) bn bl bm bg G0.out G2.out G3.out G1.out (by omega) (by omega) (by omega) (by omega) (by omega) (by omega)
            have J := Lib.hid j0
            have n1 : Hid (Mod (fun _ => False) X5 U1) := MZ4.out.trans' m1 fun k hk e => by omega
            have n2 : Hid (Mod (fun _ => False) X5 U2) := MZ4.out.trans' m2 fun k hk e => by omega
            have n3 : Hid (Mod (fun _ => False) X5 U3) := MZ4.out.trans' m3 fun k hk e => by omega
            have n4 : Hid (Mod (fun _ => False) X5 U4) := MZ4.out.trans' m4 fun k hk e => by omega
            clear j0 m1 m2 m3 m4
            refine hR1 24 rfl fun K hK => ?_
            go_simp
            refine hK.out _ _ (Lib.hid (n1.out)) ?_; clear hK K hHeld; intro hHeld
            try simp only [gA, gB, gC, Act.put, sA, sB, sC]
            refine hR1 25 rfl fun K hK => ?_
            go_simp
            refine hK.out _ _ (Lib.hid (n2.out)) ?_; clear hK K hHeld; intro hHeld
            try simp only [gA, gB, gC, Act.put, sA, sB, sC]
            refine hR1 26 rfl fun K hK => ?_
            go_simp
            refine hK.out _ _ (Lib.hid (n3.out)) ?_; clear hK K hHeld; intro hHeld
            try simp only [gA, gB, gC, Act.put, sA, sB, sC]
            refine hR1 27 rfl fun K hK => ?_
            go_simp
            refine hK.out _ _ (Lib.hid (n4.out)) ?_; clear hK K hHeld; intro hHeld
            try simp only [gA, gB, gC, Act.put, sA, sB, sC]
            refine wpAnyH_done (by kernel_rfl) ?_ _
            go_wp2
            go_meet
            case rel => exact ⟨sz, sz + 2, sz + 3, sz + 1, rfl, rfl, rfl, rfl, J.out.1, J.out.2.1, J.out.2.2.1, J.out.2.2.2, ⟨by omega, by omega, by omega, by omega⟩, n4.out⟩
          · go_simp
            refine hK.out _ _ (Lib.hid (MZ3.out)) ?_; clear hK K hHeld; intro hHeld
            try simp only [gA, gB, gC, Act.put, sA, sB, sC]
            refine hR1 21 rfl fun K hK => ?_
            go_simp
            refine hK.out _ _ (Lib.hid (MZ4.out)) ?_; clear hK K hHeld; intro hHeld
            try simp only [gA, gB, gC, Act.put, sA, sB, sC]
            obtain ⟨U1, U2, U3, U4, us1, us2, us3, us4, k1, f1, k2, f2, k3, f3, k4, f4, j0, m1, m2, m3, m4⟩ := four_boxes Z4 (sz) (sz + 3) (sz + 2) (sz + 1) bn bl bm bg G0.out G3.out G2.out G1.out (by omega) (by omega) (by omega) (by omega) (by omega) (by omega)
            have J := Lib.hid j0
            have n1 : Hid (Mod (fun _ => False) X5 U1) := MZ4.out.trans' m1 fun k hk e => by omega
            have n2 : Hid (Mod (fun _ => False) X5 U2) := MZ4.out.trans' m2 fun k hk e => by omega
            have n3 : Hid (Mod (fun _ => False) X5 U3) := MZ4.out.trans' m3 fun k hk e => by omega
            have n4 : Hid (Mod (fun _ => False) X5 U4) := MZ4.out.trans' m4 fun k hk e => by omega
            clear j0 m1 m2 m3 m4
            refine hR1 24 rfl fun K hK => ?_
            go_simp
            refine hK.out _ _ (Lib.hid (n1.out)) ?_; clear hK K hHeld; intro hHeld
            try simp only [gA, gB, gC, Act.put, sA, sB, sC]
            refine hR1 25 rfl fun K hK => ?_
            go_simp
            refine hK.out _ _ (Lib.hid (n2.out)) ?_; clear hK K hHeld; intro hHeld
            try simp only [gA, gB, gC, Act.put, sA, sB, sC]
            refine hR1 26 rfl fun K hK => ?_
            go_simp
            refine hK.out _ _ (Lib.hid (n3.out)) ?_; clear hK K hHeld; intro hHeld
            try simp only [gA, gB, gC, Act.put, sA, sB, sC]
            refine hR1 27 rfl fun K hK => ?_
            go_simp
            refine hK.out _ _ (Lib.hid (n4.out)) ?_; clear hK K hHeld; intro hHeld
            try simp only [gA, gB, gC, Act.put, sA, sB, sC]
            refine wpAnyH_done (by kernel_rfl) ?_ _
            go_wp2
            go_meet
            case rel => exact ⟨sz, sz + 3, sz + 2, sz + 1, rfl, rfl, rfl, rfl, J.out.1, J.out.2.1, J.out.2.2.1, J.out.2.2.2, ⟨by omega, by omega, by omega, by omega⟩, n4.out⟩
      · go_simp
        refine hK.out _ _ (Lib.hid (MZ1.out)) ?_; clear hK K hHeld; intro hHeld
        try simp only [gA, gB, gC, Act.put, sA, sB, sC]
        refine wpAnyH_ready (rs := [20, 22, 23]) (by kernel_rfl) (by simp) ?_
        refine AllReadyH.cons rfl (fun K hK => ?_) (AllReadyH.cons rfl (fun K hK => ?_) (AllReadyH.cons rfl (fun K hK => ?_) AllReadyH.nil))
        · go_simp
          refine hK.out _ _ (Lib.hid (MZ2.out)) ?_; clear hK K hHeld; intro hHeld
          try simp only [gA, gB, gC, Act.put, sA, sB, sC]
          refine wpAnyH_ready (rs := [22, 23]) (by kernel_rfl) (by simp) ?_
          refine AllReadyH.cons rfl (fun K hK => ?_) (AllReadyH.cons rfl (fun K hK => ?_) AllReadyH.nil)
          · go_simp
            refine hK.out _ _ (Lib.hid (MZ3.out)) ?_; clear hK K hHeld; intro hHeld
            try simp only [gA, gB, gC, Act.put, sA, sB, sC]
            refine hR1 23 rfl fun K hK => ?_
            go_simp
            refine hK.out _ _ (Lib.hid (MZ4.out)) ?_; clear hK K hHeld; intro hHeld
            try simp only [gA, gB, gC, Act.put, sA, sB, sC]
            obtain ⟨U1, U2, U3, U4, us1, us2, us3, us4, k1, f1, k2, f2, k3, f3, k4, f4, j0, m1, m2, m3, m4⟩ := four_boxes Z4 (sz + 1) (sz) (sz + 2) (sz + 3) bn bl bm bg G1.out G0.out G2.out G3.out (by omega) (by omega) (by omega) (by omega) (by omega) (by omega)
            have J := Lib.hid j0
            have n1 : Hid (Mod (fun _ => False) X5 U1) := MZ4.out.trans' m1 fun k hk e => by omega
            have n2 : Hid (Mod (fun _ => False) X5 U2) := MZ4.out.trans' m2 fun k hk e => by omega
            have n3 : Hid (Mod (fun _ => False) X5 U3) := MZ4.out.trans' m3 fun k hk e => by omega
            have n4 : Hid (Mod (fun _ => False) X5 U4) := MZ4.out.trans' m4 fun k hk e => by omega
            clear j0 m1 m2 m3 m4
            refine hR1 24 rfl fun K hK => ?_
            go_simp
            refine hK.out _ _ (Lib.hid (n1.out)) ?_; clear hK K hHeld; intro hHeld
            try simp only [gA, gB, gC, Act.put, sA, sB, sC]
            refine hR1 25 rfl fun K hK => ?_
            go_simp
            refine hK.out _ _ (Lib.hid (n2.out)) ?_; clear hK K hHeld; intro hHeld
            try simp only [gA, gB, gC, Act.put, sA, sB, sC]
            refine hR1 26 rfl fun K hK => ?_
            go_simp
            refine hK.out _ _ (Lib.hid (n3.out)) ?_; clear hK K hHeld; intro hHeld
            try simp only [gA, gB, gC, Act.put, sA, sB, sC]
            refine hR1 27 rfl fun K hK => ?_
            go_simp
            refine hK.out _ _ (Lib.hid (n4.out)) ?_; clear hK K hHeld; intro hHeld
            try simp only [gA, gB, gC, Act.put, sA, sB, sC]
            refine wpAnyH_done (by kernel_rfl) ?_ _
            go_wp2
            go_meet
            case rel => exact ⟨sz + 1, sz, sz + 2, sz + 3, rfl, rfl, rfl, rfl, J.out.1, J.out.2.1, J.out.2.2.1, J.out.2.2.2, ⟨by omega, by omega, by omega, by omega⟩, n4.out⟩
          · go_simp
            refine hK.out _ _ (Lib.hid (MZ3.out)) ?_; clear hK K hHeld; intro hHeld
            try simp only [gA, gB, gC, Act.put, sA, sB, sC]
            refine hR1 22 rfl fun K hK => ?_
            go_simp
            refine hK.out _ _ (Lib.hid (MZ4.out)) ?_; clear hK K hHeld; intro hHeld
            try simp only [gA, gB, gC, Act.put, sA, sB, sC]
            obtain ⟨U1, U2, U3, U4, us1, us2, us3, us4, k1, f1, k2, f2, k3, f3, k4, f4, j0, m1, m2, m3, m4⟩ := four_boxes Z4 (sz + 1) (sz) (sz + 3) (sz + 2) bn bl bm bg G1.out G0.out G3.out G2.out (by omega) (by omega) (by omega) (by omega) (by omega) (by omega)
            have J := Lib.hid j0
            have n1 : Hid (Mod (fun _ => False) X5 U1) := MZ4.out.trans' m1 fun k hk e => by omega
            have n2 : Hid (Mod (fun _ => False) X5 U2) := MZ4.out.trans' m2 fun k hk e => by omega
            have n3 : Hid (Mod (fun _ => False) X5 U3) := MZ4.out.trans' m3 fun k hk e => by omega
            have n4 : Hid (Mod (fun _ => False) X5 U4) := MZ4.out.trans' m4 fun k hk e => by omega
            clear j0 m1 m2 m3 m4
            refine hR1 24 rfl fun K hK => ?_
            go_simp
            refine hK.out _ _ (Lib.hid (n1.out)) ?_; clear hK K hHeld; intro hHeld
            try simp only [gA, gB, gC, Act.put, sA, sB, sC]
            refine hR1 25 rfl fun K hK => ?_
            go_simp
            refine hK.out _ _ (Lib.hid (n2.out)) ?_; clear hK K hHeld; intro hHeld
            try simp only [gA, gB, gC, Act.put, sA, sB, sC]
            refine hR1 26 rfl fun K hK => ?_
            go_simp
            refine hK.out _ _ (Lib.hid (n3.out)) ?_; clear hK K hHeld; intro hHeld
            try simp only [gA, gB, gC, Act.put, sA, sB, sC]
            refine hR1 27 rfl fun K hK => ?_
            go_simp
            refine hK.out _ _ (Lib.hid (n4.out)) ?_; clear hK K hHeld; intro hHeld
            try simp only [gA, gB, gC, Act.put, sA, sB, sC]
            refine wpAnyH_done (by kernel_rfl) ?_ _
            go_wp2
            go_meet
            case rel => exact ⟨sz + 1, sz, sz + 3, sz + 2, rfl, rfl, rfl, rfl, J.out.1, J.out.2.1, J.out.2.2.1, J.out.2.2.2, ⟨by omega, by omega, by omega, by omega⟩, n4.out⟩
        · go_simp
          refine hK.out _ _ (Lib.hid (MZ2.out)) ?_; clear hK K hHeld; intro hHeld
          try simp only [gA, gB, gC, Act.put, sA, sB, sC]
          refine wpAnyH_ready (rs := [20, 23]) (by kernel_rfl) (by simp) ?_
          refine AllReadyH.cons rfl (fun K hK => ?_) (AllReadyH.cons rfl (fun K hK => ?_) AllReadyH.nil)
          · go_simp
            refine hK.out _ _ (Lib.hid (MZ3.out)) ?_; clear hK K hHeld; intro hHeld
            try simp only [gA, gB, gC, Act.put, sA, sB, sC]
            refine hR1 23 rfl fun K hK => ?_
            go_simp
            refine hK.out _ _ (Lib.hid (MZ4.out)) ?_; clear hK K hHeld; intro hHeld
            try simp only [gA, gB, gC, Act.put, sA, sB, sC]
            obtain ⟨U1, U2, U3, U4, us1, us2, us3, us4, k1, f1, k2, f2, k3, f3, k4, f4, j0, m1, m2, m3, m4⟩ := four_boxes Z4 (sz + 2) (sz) (sz + 1) (sz + 3) bn bl bm bg G2.out G0.out G1.out G3.out (by omega) (by omega) (by omega) (by omega) (by omega) (by omega)
            have J := Lib.hid j0
            have n1 : Hid (Mod (fun _ => False) X5 U1) := MZ4.out.trans' m1 fun k hk e => by omega
            have n2 : Hid (Mod (fun _ => False) X5 U2) := MZ4.out.trans' m2 fun k hk e => by omega
            have n3 : Hid (Mod (fun _ => False) X5 U3) := MZ4.out.trans' m3 fun k hk e => by omega
            have n4 : Hid (Mod (fun _ => False) X5 U4) := MZ4.out.trans' m4 fun k hk e => by omega
            clear j0 m1 m2 m3 m4
            refine hR1 24 rfl fun K hK => ?_
            go_simp
            refine hK.out _ _ (Lib.hid (n1.out)) ?_; clear hK K hHeld; intro hHeld
            try simp only [gA, gB, gC, Act.put, sA, sB, sC]
            refine hR1 25 rfl fun K hK => ?_
            go_simp
            refine hK.out _ _ (Lib.hid (n2.out)) ?_; clear hK K hHeld; intro hHeld
            try simp only [gA, gB, gC, Act.put, sA, sB, sC]
            refine hR1 26 rfl fun K hK => ?_
            go_simp
            refine hK.out _ _ (Lib.hid (n3.out)) ?_; clear hK K hHeld; intro hHeld
            try simp only [gA, gB, gC, Act.put, sA, sB, sC]
            refine hR1 27 rfl fun K hK => ?_
            go_simp
            refine hK.out _ _ (Lib.hid (n4.out)) ?_; clear hK K hHeld; intro hHeld
            try simp only [gA, gB, gC, Act.put, sA, sB, sC]
            refine wpAnyH_done (by kernel_rfl) ?_ _
            go_wp2
            go_meet
            case rel => exact ⟨sz + 2, sz, sz + 1, sz + 3, rfl, rfl, rfl, rfl, J.out.1, J.out.2.1, J.out.2.2.1, J.out.2.2.2, ⟨by omega, by omega, by omega, by omega⟩, n4.out⟩
          · go_simp
            refine hK.out _ _ (Lib.hid (MZ3.out)) ?_; clear hK K hHeld; intro hHeld
            try simp only [gA, gB, gC, Act.put, sA, sB, sC]
            refine hR1 20 rfl fun K hK => ?_
            go_simp
            refine hK.out _ _ (Lib.hid (MZ4.out)) ?_; clear hK K hHeld; intro hHeld
            try simp only [gA, gB, gC, Act.put, sA, sB, sC]
            obtain ⟨U1, U2, U3, U4, us1, us2, us3, us4, k1, f1, k2, f2, k3, f3, k4, f4, j0, m1, m2, m3, m4⟩ := four_boxes Z4 (sz + 3) (sz) (sz + 1) (sz + 2) bn bl bm bg G3.out G0.out G1.out G2.out (by omega) (by omega) (by omega) (by omega) (by omega) (by omega)
            have J := Lib.hid j0
            have n1 : Hid (Mod (fun _ => False) X5 U1) := MZ4.out.trans' m1 fun k hk e => by omega
            have n2 : Hid (Mod (fun _ => False) X5 U2) := MZ4.out.trans' m2 fun k hk e => by omega
            have n3 : Hid (Mod (fun _ => False) X5 U3) := MZ4.out.trans' m3 fun k hk e => by omega
            have n4 : Hid (Mod (fun _ => False) X5 U4) := MZ4.out.trans' m4 fun k hk e => by omega
            clear j0 m1 m2 m3 m4
            refine hR1 24 rfl fun K hK => ?_
            go_simp
            refine hK.out _ _ (Lib.hid (n1.out)) ?_; clear hK K hHeld; intro hHeld
            try simp only [gA, gB, gC, Act.put, sA, sB, sC]
            refine hR1 25 rfl fun K hK => ?_
            go_simp
            refine hK.out _ _ (Lib.hid (n2.out)) ?_; clear hK K hHeld; intro hHeld
            try simp only [gA, gB, gC, Act.put, sA, sB, sC]
            refine hR1 26 rfl fun K hK => ?_
            go_simp
            refine hK.out _ _ (Lib.hid (n3.out)) ?_; clear hK K hHeld; intro hHeld
            try simp only [gA, gB, gC, Act.put, sA, sB, sC]
            refine hR1 27 rfl fun K hK => ?_
            go_simp
            refine hK.out _ _ (Lib.hid (n4.out)) ?_; clear hK K hHeld; intro hHeld
            try simp only [gA, gB, gC, Act.put, sA, sB, sC]
            refine wpAnyH_done (by kernel_rfl) ?_ _
            go_wp2
            go_meet
            case rel => exact ⟨sz + 3, sz, sz + 1, sz + 2, rfl, rfl, rfl, rfl, J.out.1, J.out.2.1, J.out.2.2.1, J.out.2.2.2, ⟨by omega, by omega, by omega, by omega⟩, n4.out⟩
        · go_simp
          refine hK.out _ _ (Lib.hid (MZ2.out)) ?_; clear hK K hHeld; intro hHeld
          try simp only [gA, gB, gC, Act.put, sA, sB, sC]
          refine wpAnyH_ready (rs := [20, 22]) (by kernel_rfl) (by simp) ?_
          refine AllReadyH.cons rfl (fun K hK => ?_) (AllReadyH.cons rfl (fun K hK => ?_) AllReadyH.nil)
          · go_simp
            refine hK.out _ _ (Lib.hid (MZ3.out)) ?_; clear hK K hHeld; intro hHeld
            try simp only [gA, gB, gC, Act.put, sA, sB, sC]
            refine hR1 22 rfl fun K hK => ?_
            go_simp
            refine hK.out _ _ (Lib.hid (MZ4.out)) ?_; clear hK K hHeld; intro hHeld
            try simp only [gA, gB, gC, Act.put, sA, sB, sC]
            obtain ⟨U1, U2, U3, U4, us1, us2, us3, us4, k1, f1, k2, f2, k3, f3, k4, f4, j0, m1, m2, m3, m4⟩ := four_boxes Z4 (sz + 2) (sz) (sz + 3) (sz + 1) bn bl bm bg G2.out G0.out G3.out G1.out (by omega) (by omega) (by omega) (by omega) (by omega) (by omega)
            have J := Lib.hid j0
            have n1 : Hid (Mod (fun _ => False) X5 U1) := MZ4.out.trans' m1 fun k hk e => by omega
            have n2 : Hid (Mod (fun _ => False) X5 U2) := MZ4.out.trans' m2 fun k hk e => by omega
            have n3 : Hid (Mod (fun _ => False) X5 U3) := MZ4.out.trans' m3 fun k hk e => by omega
            have n4 : Hid (Mod (fun _ => False) X5 U4) := MZ4.out.trans' m4 fun k hk e => by omega
            clear j0 m1 m2 m3 m4
            refine hR1 24 rfl fun K hK => ?_
            go_simp
            refine hK.out _ _ (Lib.hid (n1.out)) ?_; clear hK K hHeld; intro hHeld
            try simp only [gA, gB, gC, Act.put, sA, sB, sC]
            refine hR1 25 rfl fun K hK => ?_
            go_simp
            refine hK.out _ _ (Lib.hid (n2.out)) ?_; clear hK K hHeld; intro hHeld
            try simp only [gA, gB, gC, Act.put, sA, sB, sC]
            refine hR1 26 rfl fun K hK => ?_
            go_simp
            refine hK.out _ _ (Lib.hid (n3.out)) ?_; clear hK K hHeld; intro hHeld
            try simp only [gA, gB, gC, Act.put, sA, sB, sC]
            refine hR1 27 rfl fun K hK => ?_
            go_simp
            refine hK.out _ _ (Lib.hid (n4.out)) ?_; clear hK K hHeld; intro hHeld
            try simp only [gA, gB, gC, Act.put, sA, sB, sC]
            refine wpAnyH_done (by kernel_rfl) ?_ _
            go_wp2
            go_meet
            case rel => exact ⟨sz + 2, sz, sz + 3, sz + 1, rfl, rfl, rfl, rfl, J.out.1, J.out.2.1, J.out.2.2.1, J.out.2.2.2, ⟨by omega, by omega, by omega, by omega⟩, n4.out⟩
          · go_simp
            refine hK.out _ _ (Lib.hid (MZ3.out)) ?_; clear hK K hHeld; intro hHeld
            try simp only [gA, gB, gC, Act.put, sA, sB, sC]
            refine hR1 20 rfl fun K hK => ?_
            go_simp
            refine hK.out _ _ (Lib.hid (MZ4.out)) ?_; clear hK K hHeld; intro hHeld
            try simp only [gA, gB, gC, Act.put, sA, sB, sC]
            obtain ⟨U1, U2, U3, U4, us1, us2, us3, us4, k1, f1, k2, f2, k3, f3, k4, f4, j0, m1, m2, m3, m4⟩ := four_boxes Z4 (sz + 3) (sz) (sz + 2) (sz + 1) bn bl bm bg G3.out G0.out G2.out G1.out (by omega) (by omega) (by omega) (by omega) (by omega) (by omega)
            have J := Lib.hid j0
            have n1 : Hid (Mod (fun _ => False) X5 U1) := MZ4.out.trans' m1 fun k hk e => by omega
            have n2 : Hid (Mod (fun _ => False) X5 U2) := MZ4.out.trans' m2 fun k hk e => by omega
            have n3 : Hid (Mod (fun _ => False) X5 U3) := MZ4.out.trans' m3 fun k hk e => by omega
            have n4 : Hid (Mod (fun _ => False) X5 U4) := MZ4.out.trans' m4 fun k hk e => by omega
            clear j0 m1 m2 m3 m4
            refine hR1 24 rfl fun K hK => ?_
            go_simp
            refine hK.out _ _ (Lib.hid (n1.out)) ?_; clear hK K hHeld; intro hHeld
            try simp only [gA, gB, gC, Act.put, sA, sB, sC]
            refine hR1 25 rfl fun K hK => ?_
            go_simp
            refine hK.out _ _ (Lib.hid (n2.out)) ?_; clear hK K hHeld; intro hHeld
            try simp only [gA, gB, gC, Act.put, sA, sB, sC]
            refine hR1 26 rfl fun K hK => ?_
            go_simp
            refine hK.out _ _ (Lib.hid (n3.out)) ?_; clear hK K hHeld; intro hHeld
            try simp only [gA, gB, gC, Act.put, sA, sB, sC]
            refine hR1 27 rfl fun K hK => ?_
            go_simp
            refine hK.out _ _ (Lib.hid (n4.out)) ?_; clear hK K hHeld; intro hHeld
            try simp only [gA, gB, gC, Act.put, sA, sB, sC]
            refine wpAnyH_done (by kernel_rfl) ?_ _
            go_wp2
            go_meet
            case rel => exact ⟨sz + 3, sz, sz + 2, sz + 1, rfl, rfl, rfl, rfl, J.out.1, J.out.2.1, J.out.2.2.1, J.out.2.2.2, ⟨by omega, by omega, by omega, by omega⟩, n4.out⟩
      · go_simp
        refine hK.out _ _ (Lib.hid (MZ1.out)) ?_; clear hK K hHeld; intro hHeld
        try simp only [gA, gB, gC, Act.put, sA, sB, sC]
        refine wpAnyH_ready (rs := [20, 21, 23]) (by kernel_rfl) (by simp) ?_
        refine AllReadyH.cons rfl (fun K hK => ?_) (AllReadyH.cons rfl (fun K hK => ?_) (AllReadyH.cons rfl (fun K hK => ?_) AllReadyH.nil))
        · go_simp
          refine hK.out _ _ (Lib.hid (MZ2.out)) ?_; clear hK K hHeld; intro hHeld
          try simp only [gA, gB, gC, Act.put, sA, sB, sC]
          refine wpAnyH_ready (rs := [21, 23]) (by kernel_rfl) (by simp) ?_
          refine AllReadyH.cons rfl (fun K hK => ?_) (AllReadyH.cons rfl (fun K hK => ?_) AllReadyH.nil)
          · go_simp
            refine hK.out _ _ (Lib.hid (MZ3.out)) ?_; clear hK K hHeld; intro hHeld
            try simp only [gA, gB, gC, Act.put, sA, sB, sC]
            refine hR1 23 rfl fun K hK => ?_
            go_simp
            refine hK.out _ _ (Lib.hid (MZ4.out)) ?_; clear hK K hHeld; intro hHeld
            try simp only [gA, gB, gC, Act.put, sA, sB, sC]
            obtain ⟨U1, U2, U3, U4, us1, us2, us3, us4, k1, f1, k2, f2, k3, f3, k4, f4, j0, m1, m2, m3, m4⟩ := four_boxes Z4 (sz + 1) (sz + 2) (sz) (sz + 3) bn bl bm bg G1.out G2.out G0.out G3.out (by omega) (by omega) (by omega) (by omega) (by omega) (by omega)
            have J := Lib.hid j0
            have n1 : Hid (Mod (fun _ => False) X5 U1) := MZ4.out.trans' m1 fun k hk e => by omega
            have n2 : Hid (Mod (fun _ => False) X5 U2) := MZ4.out.trans' m2 fun k hk e => by omega
            have n3 : Hid (Mod (fun _ => False) X5 U3) := MZ4.out.trans' m3 fun k hk e => by omega
            have n4 : Hid (Mod (fun _ => False) X5 U4) := MZ4.out.trans' m4 fun k hk e => by omega
            clear j0 m1 m2 m3 m4
            refine hR1 24 rfl fun K hK => ?_
            go_simp
            refine hK.out _ _ (Lib.hid (n1.out)) ?_; clear hK K hHeld; intro hHeld
            try simp only [gA, gB, gC, Act.put, sA, sB, sC]
            refine hR1 25 rfl fun K hK => ?_
            go_simp
            refine hK.out _ _ (Lib.hid (n2.out)) ?_; clear hK K hHeld; intro hHeld
            try simp only [gA, gB, gC, Act.put, sA, sB, sC]
            refine hR1 26 rfl fun K hK => ?_
            go_simp
            refine hK.out _ _ (Lib.hid (n3.out)) ?_; clear hK K hHeld; intro hHeld
            try simp only [gA, gB, gC, Act.put, sA, sB, sC]
            refine hR1 27 rfl fun K hK => ?_
            go_simp
            refine hK.out _ _ (Lib.hid (n4.out)) ?_; clear hK K hHeld; intro hHeld
            try simp only [gA, gB, gC, Act.put, sA, sB, sC]
            refine wpAnyH_done (by kernel_rfl) ?_ _
            go_wp2
            go_meet
            case rel => exact ⟨sz + 1, sz + 2, sz, sz + 3, rfl, rfl, rfl, rfl, J.out.1, J.out.2.1, J.out.2.2.1, J.out.2.2.2, ⟨by omega, by omega, by omega, by omega⟩, n4.out⟩
          · go_simp
            refine hK.out _ _ (Lib.hid (MZ3.out)) ?_; clear hK K hHeld; intro hHeld
            try simp only [gA, gB, gC, Act.put, sA, sB, sC]
            refine hR1 21 rfl fun K hK => ?_
            go_simp
            refine hK.out _ _ (Lib.hid (MZ4.out)) ?_; clear hK K hHeld; intro hHeld
            try simp only [gA, gB, gC, Act.put, sA, sB, sC]
            obtain ⟨U1, U2, U3, U4, us1, us2, us3, us4, k1, f1, k2, f2, k3, f3, k4, f4, j0, m1, m2, m3, m4⟩ := four_boxes Z4 (sz + 1) (sz + 3) (sz) (sz + 2) bn bl bm bg G1.out G3.out G0.out G2.out (by omega) (by omega) (by omega) (by omega) (by omega) (by omega)
            have J := Lib.hid j0
            have n1 : Hid (Mod (fun _ => False) X5 U1) := MZ4.out.trans' m1 fun k hk e => by omega
            have n2 : Hid (Mod (fun _ => False) X5 U2) := MZ4.out.trans' m2 fun k hk e => by omega
            have n3 : Hid (Mod (fun _ => False) X5 U3) := MZ4.out.trans' m3 fun k hk e => by omega
            have n4 : Hid (Mod (fun _ => False) X5 U4) := MZ4.out.trans' m4 fun k hk e => by omega
            clear j0 m1 m2 m3 m4
            refine hR1 24 rfl fun K hK => ?_
            go_simp
            refine hK.out _ _ (Lib.hid (n1.out)) ?_; clear hK K hHeld; intro hHeld
            try simp only [gA, gB, gC, Act.put, sA, sB, sC]
            refine hR1 25 rfl fun K hK => ?_
            go_simp
            refine hK.out _ _ (Lib.hid (n2.out)) ?_; clear hK K hHeld; intro hHeld
            try simp only [gA, gB, gC, Act.put, sA, sB, sC]
            refine hR1 26 rfl fun K hK => ?_
            go_simp
            refine hK.out _ _ (Lib.hid (n3.out)) ?_; clear hK K hHeld; intro hHeld
            try simp only [gA, gB, gC, Act.put, sA, sB, sC]
            refine hR1 27 rfl fun K hK => ?_
            go_simp
            refine hK.out _ _ (Lib.hid (n4.out)) ?_; clear hK K hHeld; intro hHeld
            try simp only [gA, gB, gC, Act.put, sA, sB, sC]
            refine wpAnyH_done (by kernel_rfl) ?_ _
            go_wp2
            go_meet
            case rel => exact ⟨sz + 1, sz + 3, sz, sz + 2, rfl, rfl, rfl, rfl, J.out.1, J.out.2.1, J.out.2.2.1, J.out.2.2.2, ⟨by omega, by omega, by omega, by omega⟩, n4.out⟩
        · go_simp
          refine hK.out _ _ (Lib.hid (MZ2.out)) ?_; clear hK K hHeld; intro hHeld
          try simp only [gA, gB, gC, Act.put, sA, sB, sC]
          refine wpAnyH_ready (rs := [20, 23]) (by kernel_rfl) (by simp) ?_
          refine AllReadyH.cons rfl (fun K hK => ?_) (AllReadyH.cons rfl (fun K hK => ?_) AllReadyH.nil)
          · go_simp
            refine hK.out _ _ (Lib.hid (MZ3.out)) ?_; clear hK K hHeld; intro hHeld
            try simp only [gA, gB, gC, Act.put, sA, sB, sC]
            refine hR1 23 rfl fun K hK => ?_
            go_simp
            refine hK.out _ _ (Lib.hid (MZ4.out)) ?_; clear hK K hHeld; intro hHeld
            try simp only [gA, gB, gC, Act.put, sA, sB, sC]
            obtain ⟨U1, U2, U3, U4, us1, us2, us3, us4, k1, f1, k2, f2, k3, f3, k4, f4, j0, m1, m2, m3, m4⟩ := four_boxes Z4 (sz + 2) (sz + 1) (sz) (sz + 3) bn bl bm bg G2.out G1.out G0.out G3.out (by omega) (by omega) (by omega) (by omega) (by omega) (by omega)
            have J := Lib.hid j0
            have n1 : Hid (Mod (fun _ => False) X5 U1) := MZ4.out.trans' m1 fun k hk e => by omega
            have n2 : Hid (Mod (fun _ => False) X5 U2) := MZ4.out.trans' m2 fun k hk e => by omega
            have n3 : Hid (Mod (fun _ => False) X5 U3) := MZ4.out.trans' m3 fun k hk e => by omega
            have n4 : Hid (Mod (fun _ => False) X5 U4) := MZ4.out.trans' m4 fun k hk e => by omega
            clear j0 m1 m2 m3 m4
            refine hR1 24 rfl fun K hK => ?_
            go_simp
            refine hK.out _ _ (Lib.hid (n1.out)) ?_; clear hK K hHeld; intro hHeld
            try simp only [gA, gB, gC, Act.put, sA, sB, sC]
            refine hR1 25 rfl fun K hK => ?_
            go_simp
            refine hK.out _ _ (Lib.hid (n2.out)) ?_; clear hK K hHeld; intro hHeld
            try simp only [gA, gB, gC, Act.put, sA, sB, sC]
            refine hR1 26 rfl fun K hK => ?_
            go_simp
            refine hK.out _ _ (Lib.hid (n3.out)) ?_; clear hK K hHeld; intro hHeld
            try simp only [gA, gB, gC, Act.put, sA, sB, sC]
            refine hR1 27 rfl fun K hK => ?_
            go_simp
            refine hK.out _ _ (Lib.hid (n4.out)) ?_; clear hK K hHeld; intro hHeld
            try simp only [gA, gB, gC, Act.put, sA, sB, sC]
            refine wpAnyH_done (by kernel_rfl) ?_ _
            go_wp2
            go_meet
            case rel => exact ⟨sz + 2, sz + 1, sz, sz + 3, rfl, rfl, rfl, rfl, J.out.1, J.out.2.1, J.out.2.2.1, J.out.2.2.2, ⟨by omega, by omega, by omega, by omega⟩, n4.out⟩
          · go_simp
            refine hK.out _ _ (Lib.hid (MZ3.out)) ?_; clear hK K hHeld; intro hHeld
            try simp only [gA, gB, gC, Act.put, sA, sB, sC]
            refine hR1 20 rfl fun K hK => ?_
            go_simp
            refine hK.out _ _ (Lib.hid (MZ4.out)) ?_; clear hK K hHeld; intro hHeld
            try simp only [gA, gB, gC, Act.put, sA, sB, sC]
            obtain ⟨U1, U2, U3, U4, us1, us2, us3, us4, k1, f1, k2, f2, k3, f3, k4, f4, j0, m1, m2, m3, m4⟩ := four_boxes Z4 (sz + 3) (sz + 1) (sz) (sz + 2) bn bl bm bg G3.out G1.out G0.out G2.out (by omega) (by omega) (by omega) (by omega) (by omega) (by omega)
            have J := Lib.hid j0
            have n1 : Hid (Mod (fun _ => False) X5 U1) := MZ4.out.trans' m1 fun k hk e => by omega
            have n2 : Hid (Mod (fun _ => False) X5 U2) := MZ4.out.trans' m2 fun k hk e => by omega
            have n3 : Hid (Mod (fun _ => False) X5 U3) := MZ4.out.trans' m3 fun k hk e => by omega
            have n4 : Hid (Mod (fun _ => False) X5 U4) := MZ4.out.trans' m4 fun k hk e => by omega
            clear j0 m1 m2 m3 m4
            refine hR1 24 rfl fun K hK => ?_
            go_simp
            refine hK.out _ _ (Lib.hid (n1.out)) ?_; clear hK K hHeld; intro hHeld
            try simp only [gA, gB, gC, Act.put, sA, sB, sC]
            refine hR1 25 rfl fun K hK => ?_
            go_simp
            refine hK.out _ _ (Lib.hid (n2.out)) ?_; clear hK K hHeld; intro hHeld
            try simp only [gA, gB, gC, Act.put, sA, sB, sC]
            refine hR1 26 rfl fun K hK => ?_
            go_simp
            refine hK.out _ _ (Lib.hid (n3.out)) ?_; clear hK K hHeld; intro hHeld
            try simp only [gA, gB, gC, Act.put, sA, sB, sC]
            refine hR1 27 rfl fun K hK => ?_
            go_simp
            refine hK.out _ _ (Lib.hid (n4.out)) ?_; clear hK K hHeld; intro hHeld
            try simp only [gA, gB, gC, Act.put, sA, sB, sC]
            refine wpAnyH_done (by kernel_rfl) ?_ _
            go_wp2
            go_meet
            case rel => exact ⟨sz + 3, sz + 1, sz, sz + 2, rfl, rfl, rfl, rfl, J.out.1, J.out.2.1, J.out.2.2.1, J.out.2.2.2, ⟨by omega, by omega, by omega, by omega⟩, n4.out⟩
        · go_simp
          refine hK.out _ _ (Lib.hid (MZ2.out)) ?_; clear hK K hHeld; intro hHeld
          try simp only [gA, gB, gC, Act.put, sA, sB, sC]
          refine wpAnyH_ready (rs := [20, 21]) (by kernel_rfl) (by simp) ?_
          refine AllReadyH.cons rfl (fun K hK => ?_) (AllReadyH.cons rfl (fun K hK => ?_) AllReadyH.nil)
          · go_simp
            refine hK.out _ _ (Lib.hid (MZ3.out)) ?_; clear hK K hHeld; intro hHeld
            try simp only [gA, gB, gC, Act.put, sA, sB, sC]
            refine hR1 21 rfl fun K hK => ?_
            go_simp
            refine hK.out _ _ (Lib.hid (MZ4.out)) ?_; clear hK K hHeld; intro hHeld
            try simp only [gA, gB, gC, Act.put, sA, sB, sC]
            obtain ⟨U1, U2, U3, U4, us1, us2, us3, us4, k1, f1, k2, f2, k3, f3, k4, f4, j0, m1, m2, m3, m4⟩ := four_boxes Z4 (sz + 2) (sz + 3) (sz) (sz + 1) bn bl bm bg G2.out G3.out G0.out G1.out (by omega) (by omega) (by omega) (by omega) (by omega) (by omega)
            have J := Lib.hid j0
            have n1 : Hid (Mod (fun _ => False) X5 U1) := MZ4.out.trans' m1 fun k hk e => by omega
            have n2 : Hid (Mod (fun _ => False) X5 U2) := MZ4.out.trans' m2 fun k hk e => by omega
            have n3 : Hid (Mod (fun _ => False) X5 U3) := MZ4.out.trans' m3 fun k hk e => by omega
            have n4 : Hid (Mod (fun _ => False) X5 U4) := MZ4.out.trans' m4 fun k hk e => by omega
            clear j0 m1 m2 m3 m4
            refine hR1 24 rfl fun K hK => ?_
            go_simp
            refine hK.out _ _ (Lib.hid (n1.out)) ?_; clear hK K hHeld; intro hHeld
            try simp only [gA, gB, gC, Act.put, sA, sB, sC]
            refine hR1 25 rfl fun K hK => ?_
            go_simp
            refine hK.out _ _ (Lib.hid (n2.out)) ?_; clear hK K hHeld; intro hHeld
            try simp only [gA, gB, gC, Act.put, sA, sB, sC]
            refine hR1 26 rfl fun K hK => ?_
            go_simp
            refine hK.out _ _ (Lib.hid (n3.out)) ?_; clear hK K hHeld; intro hHeld
            try simp only [gA, gB, gC, Act.put, sA, sB, sC]
            refine hR1 27 rfl fun K hK => ?_
            go_simp
            refine hK.out _ _ (Lib.hid (n4.out)) ?_; clear hK K hHeld; intro hHeld
            try simp only [gA, gB, gC, Act.put, sA, sB, sC]
            refine wpAnyH_done (by kernel_rfl) ?_ _
            go_wp2
            go_meet
            case rel => exact ⟨sz + 2, sz + 3, sz, sz + 1, rfl, rfl, rfl, rfl, J.out.1, J.out.2.1, J.out.2.2.1, J.out.2.2.2, ⟨by omega, by omega, by omega, by omega⟩, n4.out⟩
          · go_simp
            refine hK.out _ _ (Lib.hid (MZ3.out)) ?_; clear hK K hHeld; intro hHeld
            try simp only [gA, gB, gC, Act.put, sA, sB, sC]
            refine hR1 20 rfl fun K hK => ?_
            go_simp
            refine hK.out _ _ (Lib.hid (MZ4.out)) ?_; clear hK K hHeld; intro hHeld
            try simp only [gA, gB, gC, Act.put, sA, sB, sC]
            obtain ⟨U1, U2, U3, U4, us1, us2, us3, us4, k1, f1, k2, f2, k3, f3, k4, f4, j0, m1, m2, m3, m4⟩ := four_boxes Z4 (sz + 3) (sz + 2) (sz) (sz + 1) bn bl bm bg G3.out G2.out G0.out G1.out (by omega) (by omega) (by omega) (by omega) (by omega) (by omega)
            have J := Lib.hid j0
            have n1 : Hid (Mod (fun _ => False) X5 U1) := MZ4.out.trans' m1 fun k hk e => by omega
            have n2 : Hid (Mod (fun _ => False) X5 U2) := MZ4.out.trans' m2 fun k hk e => by omega
            have n3 : Hid (Mod (fun _ => False) X5 U3) := MZ4.out.trans' m3 fun k hk e => by omega
            have n4 : Hid (Mod (fun _ => False) X5 U4) := MZ4.out.trans' m4 fun k hk e => by omega
            clear j0 m1 m2 m3 m4
            refine hR1 24 rfl fun K hK => ?_
            go_simp
            refine hK.out _ _ (Lib.hid (n1.out)) ?_; clear hK K hHeld; intro hHeld
            try simp only [gA, gB, gC, Act.put, sA, sB, sC]
            refine hR1 25 rfl fun K hK => ?_
            go_simp
            refine hK.out _ _ (Lib.hid (n2.out)) ?_; clear hK K hHeld; intro hHeld
            try simp only [gA, gB, gC, Act.put, sA, sB, sC]
            refine hR1 26 rfl fun K hK => ?_
            go_simp
            refine hK.out _ _ (Lib.hid (n3.out)) ?_; clear hK K hHeld; intro hHeld
            try simp only [gA, gB, gC, Act.put, sA, sB, sC]
            refine hR1 27 rfl fun K hK => ?_
            go_simp
            refine hK.out _ _ (Lib.hid (n4.out)) ?_; clear hK K hHeld; intro hHeld
            try simp only [gA, gB, gC, Act.put, sA, sB, sC]
            refine wpAnyH_done (by kernel_rfl) ?_ _
            go_wp2
            go_meet
            case rel => exact ⟨sz + 3, sz + 2, sz, sz + 1, rfl, rfl, rfl, rfl, J.out.1, J.out.2.1, J.out.2.2.1, J.out.2.2.2, ⟨by omega, by omega, by omega, by omega⟩, n4.out⟩
      · go_simp
        refine hK.out _ _ (Lib.hid (MZ1.out)) ?_; clear hK K hHeld; intro hHeld
        try simp only [gA, gB, gC, Act.put, sA, sB, sC]
        refine wpAnyH_ready (rs := [20, 21, 22]) (by kernel_rfl) (by simp) ?_
        refine AllReadyH.cons rfl (fun K hK => ?_) (AllReadyH.cons rfl (fun K hK => ?_) (AllReadyH.cons rfl (fun K hK => ?_) AllReadyH.nil))
        · go_simp
          refine hK.out _ _ (Lib.hid (MZ2.out)) ?_; clear hK K hHeld; intro hHeld
          try simp only [gA, gB, gC, Act.put, sA, sB, sC]
          refine wpAnyH_ready (rs := [21, 22]) (by kernel_rfl) (by simp) ?_
          refine AllReadyH.cons rfl (fun K hK => ?_) (AllReadyH.cons rfl (fun K hK => ?_) AllReadyH.nil)
          · go_simp
            refine hK.out _ _ (Lib.hid (MZ3.out)) ?_; clear hK K hHeld; intro hHeld
            try simp only [gA, gB, gC, Act.put, sA, sB, sC]
            refine hR1 22 rfl fun K hK => ?_
            go_simp
            refine hK.out _ _ (Lib.hid (MZ4.out)) ?_; clear hK K hHeld; intro hHeld
            try simp only [gA, gB, gC, Act.put, sA, sB, sC]
            obtain ⟨U1, U2, U3, U4, us1, us2, us3, us4, k1, f1, k2, f2, k3, f3, k4, f4, j0, m1, m2, m3, m4⟩ := four_boxes Z4 (sz + 1) (sz + 2) (sz + 3) (sz) bn bl bm bg G1.out G2.out G3.out G0.out (by omega) (by omega) (by omega) (by omega) (by omega) (by omega)
            have J := Lib.hid j0
            have n1 : Hid (Mod (fun _ => False) X5 U1) := MZ4.out.trans' m1 fun k hk e => by omega
            have n2 : Hid (Mod (fun _ => False) X5 U2) := MZ4.out.trans' m2 fun k hk e => by omega
            have n3 : Hid (Mod (fun _ => False) X5 U3) := MZ4.out.trans' m3 fun k hk e => by omega
            have n4 : Hid (Mod (fun _ => False) X5 U4) := MZ4.out.trans' m4 fun k hk e => by omega
            clear j0 m1 m2 m3 m4
            refine hR1 24 rfl fun K hK => ?_
            go_simp
            refine hK.out _ _ (Lib.hid (n1.out)) ?_; clear hK K hHeld; intro hHeld
            try simp only [gA, gB, gC, Act.put, sA, sB, sC]
            refine hR1 25 rfl fun K hK => ?_
            go_simp
            refine hK.out _ _ (Lib.hid (n2.out)) ?_; clear hK K hHeld; intro hHeld
            try simp only [gA, gB, gC, Act.put, sA, sB, sC]
            refine hR1 26 rfl fun K hK => ?_
            go_simp
            refine hK.out _ _ (Lib.hid (n3.out)) ?_; clear hK K hHeld; intro hHeld
            try simp only [gA, gB, gC, Act.put, sA, sB, sC]
            refine hR1 27 rfl fun K hK => ?_
            go_simp
            refine hK.out _ _ (Lib.hid (n4.out)) ?_; clear hK K hHeld; intro hHeld
            try simp only [gA, gB, gC, Act.put, sA, sB, sC]
            refine wpAnyH_done (by kernel_rfl) ?_ _
            go_wp2
            go_meet
            case rel => exact ⟨sz + 1, sz + 2, sz + 3, sz, rfl, rfl, rfl, rfl, J.out.1, J.out.2.1, J.out.2.2.1, J.out.2.2.2, ⟨by omega, by omega, by omega, by omega⟩, n4.out⟩
          · go_simp
            refine hK.out _ _ (Lib.hid (MZ3.out)) ?_; clear hK K hHeld; intro hHeld
            try simp only [gA, gB, gC, Act.put, sA, sB, sC]
            refine hR1 21 rfl fun K hK => ?_
            go_simp
            refine hK.out _ _ (Lib.hid (MZ4.out)) ?_; clear hK K hHeld; intro hHeld
            try simp only [gA, gB, gC, Act.put, sA, sB, sC]
            obtain ⟨U1, U2, U3, U4, us1, us2, us3, us4, k1, f1, k2, f2, k3, f3, k4, f4, j0, m1, m2, m3, m4⟩ := four_boxes Z4 (sz + 1) (sz + 3) (sz + 2) (sz) bn bl bm bg G1.out G3.out G2.out G0.out (by omega) (by omega) (by omega) (by omega) (by omega) (by omega)
            have J := Lib.hid j0
            have n1 : Hid (Mod (fun _ => False) X5 U1) := MZ4.out.trans' m1 fun k hk e => by omega
            have n2 : Hid (Mod (fun _ => False) X5 U2) := MZ4.out.trans' m2 fun k hk e => by omega
            have n3 : Hid (Mod (fun _ => False) X5 U3) := MZ4.out.trans' m3 fun k hk e => by omega
            have n4 : Hid (Mod (fun _ => False) X5 U4) := MZ4.out.trans' m4 fun k hk e => by omega
            clear j0 m1 m2 m3 m4
            refine hR1 24 rfl fun K hK => ?_
            go_simp
            refine hK.out _ _ (Lib.hid (n1.out)) ?_; clear hK K hHeld; intro hHeld
            try simp only [gA, gB, gC, Act.put, sA, sB, sC]
            refine hR1 25 rfl fun K hK => ?_
            go_simp
            refine hK.out _ _ (Lib.hid (n2.out)) ?_; clear hK K hHeld; intro hHeld
            try simp only [gA, gB, gC, Act.put, sA, sB, sC]
            refine hR1 26 rfl fun K hK => ?_
            go_simp
            refine hK.out _ _ (Lib.hid (n3.out)) ?_; clear hK K hHeld; intro hHeld
            try simp only [gA, gB, gC, Act.put, sA, sB, sC]
            refine hR1 27 rfl fun K hK => ?_
            go_simp
            refine hK.out _ _ (Lib.hid (n4.out)) ?_; clear hK K hHeld; intro hHeld
            try simp only [gA, gB, gC, Act.put, sA, sB, sC]
            refine wpAnyH_done (by kernel_rfl) ?_ _
            go_wp2
            go_meet
            case rel => exact ⟨sz + 1, sz + 3, sz + 2, sz, rfl, rfl, rfl, rfl, J.out.1, J.out.2.1, J.out.2.2.1, J.out.2.2.2, ⟨by omega, by omega, by omega, by omega⟩, n4.out⟩
        · go_simp
          refine hK.out _ _ (Lib.hid (MZ2.out)) ?_; clear hK K hHeld; intro hHeld
          try simp only [gA, gB, gC, Act.put, sA, sB, sC]
          refine wpAnyH_ready (rs := [20, 22]) (by kernel_rfl) (by simp) ?_
          refine AllReadyH.cons rfl (fun K hK => ?_) (AllReadyH.cons rfl (fun K hK => ?_) AllReadyH.nil)
          · go_simp
            refine hK.out _ _ (Lib.hid (MZ3.out)) ?_; clear hK K hHeld; intro hHeld
            try simp only [gA, gB, gC, Act.put, sA, sB, sC]
            refine hR1 22 rfl fun K hK => ?_
            go_simp
            refine hK.out _ _ (Lib.hid (MZ4.out)) ?_; clear hK K hHeld; intro hHeld
            try simp only [gA, gB, gC, Act.put, sA, sB, sC]
            obtain ⟨U1, U2, U3, U4, us1, us2, us3, us4, k1, f1, k2, f2, k3, f3, k4, f4, j0, m1, m2, m3, m4⟩ := four_boxes Z4 (sz + 2) (sz + 1) (sz + 3) (sz) bn bl bm bg G2.out G1.out G3.out G0.out (by omega) (by omega) (by omega) (by omega) (by omega) (by omega)
            have J := Lib.hid j0
            have n1 : Hid (Mod (fun _ => False) X5 U1) := MZ4.out.trans' m1 fun k hk e => by omega
            have n2 : Hid (Mod (fun _ => False) X5 U2) := MZ4.out.trans' m2 fun k hk e => by omega
            have n3 : Hid (Mod (fun _ => False) X5 U3) := MZ4.out.trans' m3 fun k hk e => by omega
            have n4 : Hid (Mod (fun _ => False) X5 U4) := MZ4.out.trans' m4 fun k hk e => by omega
            clear j0 m1 m2 m3 m4
            refine hR1 24 rfl fun K hK => ?_
            go_simp
            refine hK.out _ _ (Lib.hid (n1.out)) ?_; clear hK K hHeld; intro hHeld
            try simp only [gA, gB, gC, Act.put, sA, sB, sC]
            refine hR1 25 rfl fun K hK => ?_
            go_simp
            refine hK.out _ _ (Lib.hid (n2.out)) ?_; clear hK K hHeld; intro hHeld
            try simp only [gA, gB, gC, Act.put, sA, sB, sC]
            refine hR1 26 rfl fun K hK => ?_
            go_simp
            refine hK.out _ _ (Lib.hid (n3.out)) ?_; clear hK K hHeld; intro hHeld
            try simp only [gA, gB, gC, Act.put, sA, sB, sC]
            refine hR1 27 rfl fun K hK => ?_
            go_simp
            refine hK.out _ _ (Lib.hid (n4.out)) ?_; clear hK K hHeld; intro hHeld
            try simp only [gA, gB, gC, Act.put, sA, sB, sC]
            refine wpAnyH_done (by kernel_rfl) ?_ _
            go_wp2
            go_meet
            case rel => exact ⟨sz + 2, sz + 1, sz + 3, sz, rfl, rfl, rfl, rfl, J.out.1, J.out.2.1, J.out.2.2.1, J.out.2.2.2, ⟨by omega, by omega, by omega, by omega⟩, n4.out⟩
          · go_simp
            refine hK.out _ _ (Lib.hid (MZ3.out)) ?_; clear hK K hHeld; intro hHeld
            try simp only [gA, gB, gC, Act.put, sA, sB, sC]
            refine hR1 20 rfl fun K hK => ?_
            go_simp
            refine hK.out _ _ (Lib.hid (MZ4.out)) ?_; clear hK K hHeld; intro hHeld
            try simp only [gA, gB, gC, Act.put, sA, sB, sC]
            obtain ⟨U1, U2, U3, U4, us1, us2, us3, us4, k1, f1, k2, f2, k3, f3, k4, f4, j0, m1, m2, m3, m4⟩ := four_boxes Z4 (sz + 3) (sz + 1) (sz + 2) (sz) bn bl bm bg G3.out G1.out G2.out G0.out (by omega) (by omega) (by omega) (by omega) (by omega) (by omega)
            have J := Lib.hid j0
            have n1 : Hid (Mod (fun _ => False) X5 U1) := MZ4.out.trans' m1 fun k hk e => by omega
            have n2 : Hid (Mod (fun _ => False) X5 U2) := MZ4.out.trans' m2 fun k hk e => by omega
            have n3 : Hid (Mod (fun _ => False) X5 U3) := MZ4.out.trans' m3 fun k hk e => by omega
            have n4 : Hid (Mod (fun _ => False) X5 U4) := MZ4.out.trans' m4 fun k hk e => by omega
            clear j0 m1 m2 m3 m4
            refine hR1 24 rfl fun K hK => ?_
            go_simp
            refine hK.out _ _ (Lib.hid (n1.out)) ?_; clear hK K hHeld; intro hHeld
            try simp only [gA, gB, gC, Act.put, sA, sB, sC]
            refine hR1 25 rfl fun K hK => ?_
            go_simp
            refine hK.out _ _ (Lib.hid (n2.out)) ?_; clear hK K hHeld; intro hHeld
            try simp only [gA, gB, gC, Act.put, sA, sB, sC]
            refine hR1 26 rfl fun K hK => ?_
            go_simp
            refine hK.out _ _ (Lib.hid (n3.out)) ?_; clear hK K hHeld; intro hHeld
            try simp only [gA, gB, gC, Act.put, sA, sB, sC]
            refine hR1 27 rfl fun K hK => ?_
            go_simp
            refine hK.out _ _ (Lib.hid (n4.out)) ?_; clear hK K hHeld; intro hHeld
            try simp only [gA, gB, gC, Act.put, sA, sB, sC]
            refine wpAnyH_done (by kernel_rfl) ?_ _
            go_wp2
            go_meet
            case rel => exact ⟨sz + 3, sz + 1, sz + 2, sz, rfl, rfl, rfl, rfl, J.out.1, J.out.2.1, J.out.2.2.1, J.out.2.2.2, ⟨by omega, by omega, by omega, by omega⟩, n4.out⟩
        · go_simp
          refine hK.out _ _ (Lib.hid (MZ2.out)) ?_; clear hK K hHeld; intro hHeld
          try simp only [gA, gB, gC, Act.put, sA, sB, sC]
          refine wpAnyH_ready (rs := [20, 21]) (by kernel_rfl) (by simp) ?_
          refine AllReadyH.cons rfl (fun K hK => ?_) (AllReadyH.cons rfl (fun K hK => ?_) AllReadyH.nil)
          · go_simp
            refine hK.out _ _ (Lib.hid (MZ3.out)) ?_; clear hK K hHeld; intro hHeld
            try simp only [gA, gB, gC, Act.put, sA, sB, sC]
            refine hR1 21 rfl fun K hK => ?_
            go_simp
            refine hK.out _ _ (Lib.hid (MZ4.out)) ?_; clear hK K hHeld; intro hHeld
            try simp only [gA, gB, gC, Act.put, sA, sB, sC]
            obtain ⟨U1, U2, U3, U4, us1, us2, us3, us4, k1, f1, k2, f2, k3, f3, k4, f4, j0, m1, m2, m3, m4⟩ := four_boxes Z4 (sz + 2) (sz + 3) (sz + 1) (sz) bn bl bm bg G2.out G3.out G1.out G0.out (by omega) (by omega) (by omega) (by omega) (by omega) (by omega)
            have J := Lib.hid j0
            have n1 : Hid (Mod (fun _ => False) X5 U1) := MZ4.out.trans' m1 fun k hk e => by omega
            have n2 : Hid (Mod (fun _ => False) X5 U2) := MZ4.out.trans' m2 fun k hk e => by omega
            have n3 : Hid (Mod (fun _ => False) X5 U3) := MZ4.out.trans' m3 fun k hk e => by omega
            have n4 : Hid (Mod (fun _ => False) X5 U4) := MZ4.out.trans' m4 fun k hk e => by omega
            clear j0 m1 m2 m3 m4
            refine hR1 24 rfl fun K hK => ?_
            go_simp
            refine hK.out _ _ (Lib.hid (n1.out)) ?_; clear hK K hHeld; intro hHeld
            try simp only [gA, gB, gC, Act.put, sA, sB, sC]
            refine hR1 25 rfl fun K hK => ?_
            go_simp
            refine hK.out _ _ (Lib.hid (n2.out)) ?_; clear hK K hHeld; intro hHeld
            try simp only [gA, gB, gC, Act.put, sA, sB, sC]
            refine hR1 26 rfl fun K hK => ?_
            go_simp
            refine hK.out _ _ (Lib.hid (n3.out)) ?_; clear hK K hHeld; intro hHeld
            try simp only [gA, gB, gC, Act.put, sA, sB, sC]
            refine hR1 27 rfl fun K hK => ?_
            go_simp
            refine hK.out _ _ (Lib.hid (n4.out)) ?_; clear hK K hHeld; intro hHeld
            try simp only [gA, gB, gC, Act.put, sA, sB, sC]
            refine wpAnyH_done (by kernel_rfl) ?_ _
            go_wp2
            go_meet
            case rel => exact ⟨sz + 2, sz + 3, sz + 1, sz, rfl, rfl, rfl, rfl, J.out.1, J.out.2.1, J.out.2.2.1, J.out.2.2.2, ⟨by omega, by omega, by omega, by omega⟩, n4.out⟩
          · go_simp
            refine hK.out _ _ (Lib.hid (MZ3.out)) ?_; clear hK K hHeld; intro hHeld
            try simp only [gA, gB, gC, Act.put, sA, sB, sC]
            refine hR1 20 rfl fun K hK => ?_
            go_simp
            refine hK.out _ _ (Lib.hid (MZ4.out)) ?_; clear hK K hHeld; intro hHeld
            try simp only [gA, gB, gC, Act.put, sA, sB, sC]
            obtain ⟨U1, U2, U3, U4, us1, us2, us3, us4, k1, f1, k2, f2, k3, f3, k4, f4, j0, m1, m2, m3, m4⟩ := four_boxes Z4 (sz + 3) (sz + 2) (sz + 1) (sz) bn bl bm bg G3.out G2.out G1.out G0.out (by omega) (by omega) (by omega) (by omega) (by omega) (by omega)
            have J := Lib.hid j0
            have n1 : Hid (Mod (fun _ => False) X5 U1) := MZ4.out.trans' m1 fun k hk e => by omega
            have n2 : Hid (Mod (fun _ => False) X5 U2) := MZ4.out.trans' m2 fun k hk e => by omega
            have n3 : Hid (Mod (fun _ => False) X5 U3) := MZ4.out.trans' m3 fun k hk e => by omega
            have n4 : Hid (Mod (fun _ => False) X5 U4) := MZ4.out.trans' m4 fun k hk e => by omega
            clear j0 m1 m2 m3 m4
            refine hR1 24 rfl fun K hK => ?_
            go_simp
            refine hK.out _ _ (Lib.hid (n1.out)) ?_; clear hK K hHeld; intro hHeld
            try simp only [gA, gB, gC, Act.put, sA, sB, sC]
            refine hR1 25 rfl fun K hK => ?_
            go_simp
            refine hK.out _ _ (Lib.hid (n2.out)) ?_; clear hK K hHeld; intro hHeld
            try simp only [gA, gB, gC, Act.put, sA, sB, sC]
            refine hR1 26 rfl fun K hK => ?_
            go_simp
            refine hK.out _ _ (Lib.hid (n3.out)) ?_; clear hK K hHeld; intro hHeld
            try simp only [gA, gB, gC, Act.put, sA, sB, sC]
            refine hR1 27 rfl fun K hK => ?_
            go_simp
            refine hK.out _ _ (Lib.hid (n4.out)) ?_; clear hK K hHeld; intro hHeld
            try simp only [gA, gB, gC, Act.put, sA, sB, sC]
            refine wpAnyH_done (by kernel_rfl) ?_ _
            go_wp2
            go_meet
            case rel => exact ⟨sz + 3, sz + 2, sz + 1, sz, rfl, rfl, rfl, rfl, J.out.1, J.out.2.1, J.out.2.2.1, J.out.2.2.2, ⟨by omega, by omega, by omega, by omega⟩, n4.out⟩
    case rest =>
      obtain ⟨p1, p2, p3, p4, rfl, rfl, rfl, rfl, P1, P2, P3, P4, PB, MC⟩ := hcut
      have M1X : Mod (fun _ => False) W1 X5 := M05.out.trans' Y5.out fun k hk e => by have := HSZ1.out; have := HSZV.out; have := HB12.out; have := HB23.out; have := HSB3.out; omega
      have M1c : Mod (fun _ => False) W1 wc := M1X.trans MC.out
      have k0 := HB0.out.mod M1c
      have k1 := HB1.out.mod M1c
      have k2 : wc.heap[w.heap.size + 1 + 1]? = some (stO s) := (M1c.block _ (lt_of HB2.out) (fun x => x)).trans HB2.out
      have k3 := HB3.out.mod M1c
      have k4 := HB4.out.mod M1c
      have kb1 : wc.heap[B1]? = some (stO i) := (MC.out.block _ (by have := Y5.out.size; have := lt_of HB5.out; omega) (fun x => x)).trans ((Y5.out.block _ (lt_of HB5.out) hB14).trans HB5.out)
      have kb2 : wc.heap[B2]? = some (stO a) := (MC.out.block _ (by have := Y5.out.size; have := lt_of HB6.out; omega) (fun x => x)).trans ((Y5.out.block _ (lt_of HB6.out) hB24).trans HB6.out)
      have kb3 : BoxA wc B3 (ptr (am d.path)) 75 := (MC.out.block _ (by have := Y5.out.size; have := lt_of HB7.out; omega) (fun x => x)).trans ((Y5.out.block _ (lt_of HB7.out) (by have := HSB3.out; omega)).trans HB7.out)
      have kb4 : wc.heap[B4]? = some (stO (sameS a i)) := (MC.out.block _ (lt_of HX5.out) (fun x => x)).trans HX5.out
      have M0c : Mod (fun _ => False) w wc := HM1.out.trans M1c
      have HTc := Hh.out.mod0 M0c
      have hTbc := HTb.out.mod M0c
      have hAN : a.n.size ≤ 65536 := by rw [← HA.out, ← HI.out]; show (orS s.n n.name).size ≤ _; unfold orS; split; exact HNo.out.name; exact HS.out.n
      have hAG : a.g.size ≤ 65536 := by rw [← HA.out, ← HI.out]; show (orS s.g n.gid).size ≤ _; unfold orS; split; exact HNo.out.gid; exact HS.out.g
      have hMI : i.mo < 4294967296 := by rw [← HI.out]; show modeOf n < _; have := HNo.out.perm; unfold modeOf; split <;> omega
      have hMO : a.mo < 4294967296 := by rw [← HA.out]; show orN s.mo 4294967295 i.mo < _; unfold orN; split; exact hMI; exact HS.out.ok.mo
      obtain ⟨ow, how⟩ : ∃ ow, ow = decide (who = n.uid) := ⟨_, rfl⟩
      have hiu : i.u = n.uid := by rw [← HI.out]; rfl
      have tow : (who.toList == i.u.toList) = ow := by rw [how, hiu, Bool.eq_iff_iff]; simp; exact ⟨toList_inj, fun e => by rw [e]⟩
      obtain ⟨so, hso⟩ : ∃ so, wc.heap.size = so := ⟨_, rfl⟩
      obtain ⟨W9, hW9⟩ : ∃ W9, wc.alloc (.cells #[.bool ow] 4) = W9 := ⟨_, rfl⟩
      have hs9 : W9.heap.size = so + 1 := by rw [← hW9, World.size_alloc, hso]
      have k9 : BoxA W9 so (.bool ow) 4 := by rw [← hW9]; exact new_at' _ _ _ hso.symm
      have m9 : Mod (fun _ => False) wc W9 := by rw [← hW9]; exact (Mod.refl _ _).alloc _
      obtain ⟨W10, hW10⟩ : ∃ W10, W9.alloc (.cells #[.func (.func 81) #[] #[ptr B2, ptr B4], .int .i64 186, .func (.func 82) #[] #[ptr p1, ptr (w.heap.size + 1)], .int .i64 187, .func (.func 83) #[] #[ptr p1, ptr B3, ptr (w.heap.size + 1 + 1 + 1)], .int .i64 182, .func (.func 84) #[] #[ptr p1, ptr B2], .int .i64 183, .func (.func 85) #[] #[ptr p1, ptr w.heap.size, ptr B3, ptr B2], .int .i64 184, .func (.func 86) #[] #[ptr p2, ptr (w.heap.size + 4)], .int .i64 181, .func (.func 87) #[] #[ptr p2, ptr (w.heap.size + 4), ptr (w.heap.size + 1 + 1 + 1)], .int .i64 182, .func (.func 88) #[] #[ptr p2, ptr B2], .int .i64 4, .func (.func 89) #[] #[ptr p3, ptr so], .int .i64 182, .func (.func 90) #[] #[ptr p3, ptr B2, ptr B1], .int .i64 186, .func (.func 91) #[] #[ptr p4, ptr so], .int .i64 182, .func (.func 92) #[] #[ptr p4, ptr B2], .int .i64 183, .func (.func 93) #[] #[ptr B2, ptr B1, ptr so], .int .i64 182] 95) = W10 := ⟨_, rfl⟩
      have hask := new_at' W9 (.cells #[.func (.func 81) #[] #[ptr B2, ptr B4], .int .i64 186, .func (.func 82) #[] #[ptr p1, ptr (w.heap.size + 1)], .int .i64 187, .func (.func 83) #[] #[ptr p1, ptr B3, ptr (w.heap.size + 1 + 1 + 1)], .int .i64 182, .func (.func 84) #[] #[ptr p1, ptr B2], .int .i64 183, .func (.func 85) #[] #[ptr p1, ptr w.heap.size, ptr B3, ptr B2], .int .i64 184, .func (.func 86) #[] #[ptr p2, ptr (w.heap.size + 4)], .int .i64 181, .func (.func 87) #[] #[ptr p2, ptr (w.heap.size + 4), ptr (w.heap.size + 1 + 1 + 1)], .int .i64 182, .func (.func 88) #[] #[ptr p2, ptr B2], .int .i64 4, .func (.func 89) #[] #[ptr p3, ptr so], .int .i64 182, .func (.func 90) #[] #[ptr p3, ptr B2, ptr B1], .int .i64 186, .func (.func 91) #[] #[ptr p4, ptr so], .int .i64 182, .func (.func 92) #[] #[ptr p4, ptr B2], .int .i64 183, .func (.func 93) #[] #[ptr B2, ptr B1, ptr so], .int .i64 182] 95) _ hs9.symm
      rw [hW10] at hask
      have m10 : Mod (fun _ => False) W9 W10 := by rw [← hW10]; exact (Mod.refl _ _).alloc _
      have mc10 := m9.trans m10
      have hfe := wstatE_first T n d s a i who HPd.out HI.out HA.out bn bl bm bg ow HBN.out HBL.out HBM.out HBG.out how 81 82 83 84 85 86 87 88 89 90 91 92 93 (#[ptr B2, ptr B4]) (#[ptr p1, ptr (w.heap.size + 1)]) (#[ptr p1, ptr B3, ptr (w.heap.size + 1 + 1 + 1)]) (#[ptr p1, ptr B2]) (#[ptr p1, ptr w.heap.size, ptr B3, ptr B2]) (#[ptr p2, ptr (w.heap.size + 4)]) (#[ptr p2, ptr (w.heap.size + 4), ptr (w.heap.size + 1 + 1 + 1)]) (#[ptr p2, ptr B2]) (#[ptr p3, ptr so]) (#[ptr p3, ptr B2, ptr B1]) (#[ptr p4, ptr so]) (#[ptr p4, ptr B2]) (#[ptr B2, ptr B1, ptr so])
      obtain ⟨l, hlq⟩ : ∃ l : List Ask, l = [⟨81, #[ptr B2, ptr B4], 186, !eqS a (sameS a i)⟩, ⟨82, #[ptr p1, ptr (w.heap.size + 1)], 187, bn && decide (n.path = 1)⟩, ⟨83, #[ptr p1, ptr B3, ptr (w.heap.size + 1 + 1 + 1)], 182, bn && !mayB d who 2⟩, ⟨84, #[ptr p1, ptr B2], 183, bn && !nameOk a.n⟩, ⟨85, #[ptr p1, ptr w.heap.size, ptr B3, ptr B2], 184, bn && (kidOf T.L d a.n).isSome⟩, ⟨86, #[ptr p2, ptr (w.heap.size + 4)], 181, bl && n.dir⟩, ⟨87, #[ptr p2, ptr (w.heap.size + 4), ptr (w.heap.size + 1 + 1 + 1)], 182, bl && !mayB n who 2⟩, ⟨88, #[ptr p2, ptr B2], 4, bl && decide (7168 < a.len)⟩, ⟨89, #[ptr p3, ptr so], 182, bm && !ow⟩, ⟨90, #[ptr p3, ptr B2, ptr B1], 186, bm && decide ((a.mo ^^^ i.mo) &&& 4294966784 ≠ 0)⟩, ⟨91, #[ptr p4, ptr so], 182, bg && !ow⟩, ⟨92, #[ptr p4, ptr B2], 183, bg && !userOk a.g⟩, ⟨93, #[ptr B2, ptr B1, ptr so], 182, decide (a.mt ≠ i.mt) && !ow⟩] := ⟨_, rfl⟩
      have hF := pfirst_any l (so + 1) 13 W10 (by rw [hlq]; exact (by decide : 13 ≤ 1000)) (by rw [hlq]; exact Nat.le_refl 13)
        (fun j hj => by
          subst hlq
          have hj4 : j < 13 := hj
          rcases j with _ | _ | _ | _ | _ | _ | _ | _ | _ | _ | _ | _ | _ | j
          · exact ⟨cell_of hask 0, cell_of hask 1⟩
          · exact ⟨cell_of hask 2, cell_of hask 3⟩
          · exact ⟨cell_of hask 4, cell_of hask 5⟩
          · exact ⟨cell_of hask 6, cell_of hask 7⟩
          · exact ⟨cell_of hask 8, cell_of hask 9⟩
          · exact ⟨cell_of hask 10, cell_of hask 11⟩
          · exact ⟨cell_of hask 12, cell_of hask 13⟩
          · exact ⟨cell_of hask 14, cell_of hask 15⟩
          · exact ⟨cell_of hask 16, cell_of hask 17⟩
          · exact ⟨cell_of hask 18, cell_of hask 19⟩
          · exact ⟨cell_of hask 20, cell_of hask 21⟩
          · exact ⟨cell_of hask 22, cell_of hask 23⟩
          · exact ⟨cell_of hask 24, cell_of hask 25⟩
          · omega)
        (fun x hx => by
          subst hlq
          simp only [List.mem_cons, List.not_mem_nil, or_false] at hx
          rcases hx with rfl | rfl | rfl | rfl | rfl | rfl | rfl | rfl | rfl | rfl | rfl | rfl | rfl
          · exact enters_of Tryz.func81 (by kernel_rfl) rfl
          · exact enters_of Tryz.func82 (by kernel_rfl) rfl
          · exact enters_of Tryz.func83 (by kernel_rfl) rfl
          · exact enters_of Tryz.func84 (by kernel_rfl) rfl
          · exact enters_of Tryz.func85 (by kernel_rfl) rfl
          · exact enters_of Tryz.func86 (by kernel_rfl) rfl
          · exact enters_of Tryz.func87 (by kernel_rfl) rfl
          · exact enters_of Tryz.func88 (by kernel_rfl) rfl
          · exact enters_of Tryz.func89 (by kernel_rfl) rfl
          · exact enters_of Tryz.func90 (by kernel_rfl) rfl
          · exact enters_of Tryz.func91 (by kernel_rfl) rfl
          · exact enters_of Tryz.func92 (by kernel_rfl) rfl
          · exact enters_of Tryz.func93 (by kernel_rfl) rfl)
        (fun x hx U hU => by
          have hcU := mc10.trans hU
          have HU := HTc.mod0 hcU
          have l0 := k0.mod hcU
          have l1 := k1.mod hcU
          have l3 := k3.mod hcU
          have l4 := k4.mod hcU
          have lb1 : U.heap[B1]? = some (stO i) := (hcU.block _ (lt_of kb1) (fun x => x)).trans kb1
          have lb2 : U.heap[B2]? = some (stO a) := (hcU.block _ (lt_of kb2) (fun x => x)).trans kb2
          have lb3 := kb3.mod hcU
          have lb4 : U.heap[B4]? = some (stO (sameS a i)) := (hcU.block _ (lt_of kb4) (fun x => x)).trans kb4
          have l9 := k9.mod (m10.trans hU)
          have lp1 := P1.out.mod hcU
          have lp2 := P2.out.mod hcU
          have lp3 := P3.out.mod hcU
          have lp4 := P4.out.mod hcU
          have hTU := hTbc.mod hcU
          have kn := HU.node n HNm.out
          have kd := HU.node d HDm.out
          have hno := HNo.out
          have hs := HS.out
          have hi := HI.out
          have ha := HA.out
          subst hlq
          simp only [List.mem_cons, List.not_mem_nil, or_false] at hx
          rcases hx with rfl | rfl | rfl | rfl | rfl | rfl | rfl | rfl | rfl | rfl | rfl | rfl | rfl
          · exact pS1 lb2 lb4
          · exact pS2 lp1 l1
          · exact pS3 lp1 lb3 l3 kd (HWF.out.ok d HDm.out).perm
          · exact pS4 lp1 lb2 hAN hTU
          · exact pS5 HU HWF.out HDm.out lp1 l0 lb3 lb2
          · exact pS6 lp2 l4 kn
          · exact pS7 lp2 l4 l3 kn hno.perm
          · exact pS8 lp2 lb2
          · exact pS9 lp3 l9
          · exact pS10 lp3 lb2 lb1 hMO hMI
          · exact pS11 lp4 l9
          · exact pS12 lp4 lb2 hAG hTU
          · exact pS13 lb2 lb1 l9)
      rw [hlq, hfe] at hF
      clear hlq l
      have r3 := k3.cell
      have ru : wc.cell? ⟨B1, 10, none⟩ = some (.string i.u) := (cell_of kb1 10).trans rfl
      have M0_10 : Hid (Mod (fun _ => False) w W10) := M0c.trans mc10
      have M1_10 : Hid (Mod (fun _ => False) W1 W10) := M1c.trans mc10
      have MC10 := Lib.hid mc10
      have KB2 := Lib.hid kb2
      have KB3 := Lib.hid kb3
      clear k0 k1 k2 k3 k4 kb1 kb2 kb3 kb4 M1X M1c HTc hTbc how hiu m9 k9 m10 mc10 hask hfe M0c
      unfold ptr at hW10
      go_wp2_with fail
      clear hW9 hW10
      refine hF.mono ?_
      rintro e V ⟨rfl, mV⟩
      clear hF
      have t3 := Lib.hid mV
      have MV0 : Hid (Mod (fun _ => False) w V) := M0_10.out.trans mV
      have MVc : Mod (fun _ => False) wc V := MC10.out.trans mV
      have MV1 : Mod (fun _ => False) W1 V := M1_10.out.trans mV
      have HTV := Lib.hid (Hh.out.mod0 MV0.out)
      have HWB : Hid (WB V w.heap.size p1 p2 B2 B3 bn bl (am n.path) (am d.path) s a who) := by
        have h1 := HSZV.out
        have h2 := HB12.out
        have h3 := HB23.out
        have h4 := HSB3.out
        have h5 := PB.out
        exact ⟨HB4.out.mod MV1, HB3.out.mod MV1, (MV1.block _ (lt_of HB2.out) (fun x => x)).trans HB2.out, P1.out.mod MVc, P2.out.mod MVc, (MVc.block _ (lt_of KB2.out) (fun x => x)).trans KB2.out, KB3.out.mod MVc, by omega, by omega, by omega, by omega⟩
      have HAn : Hid (am n.path < w.heap.size) := lt_of (Hh.out.node n HNm.out)
      have HAd : Hid (am d.path < w.heap.size) := lt_of (Hh.out.node d HDm.out)
      clear t3 MVc MV1 mV M0_10 M1_10 MC10 KB2 KB3 HB0 HB1 HB2 HB3 HB4 HM1 HSZ1 HTb HSZV HB12 V3 V4 HB23 M05 HSB3 h5 HSB4 hB24 hB24l HX5 HB5 HB6 HB7 Y5 c9 c8 c5 c11 hB14 d9 d8 d5 d11 tn tl tm tg hsz hB4s P1 P2 P3 P4 PB MC tow hso hs9 r3 ru
      clear W0 W9 W10 wc X5 V5
      by_cases he : wstatE T n s who = 0
      · have t3 : (wstatE T n s who != 0) = false := by simp [he]
        obtain ⟨z1, z2, z3, z4, z5⟩ := wstatE_zero (fun x => x he)
        rw [HI.out, HA.out] at z1 z2 z3 z4 z5
        have HV : Hid (wstatT T n.path s who now = (wstatT' T n s who now, 0)) := by
          show _ = _
          unfold wstatT; rw [HL.out]
          exact if_neg (fun x => x he)
        clear he z4 z5
        have hbn' : bn = decide (a.n ≠ n.name) := by rw [HBN.out, ← HI.out]; rfl
        have hbl' : bl = decide (a.len ≠ n.data.size) := by rw [HBL.out, ← HI.out]; rfl
        have HLen : Hid (bl = true → a.len ≤ 7168) := fun e => (z2 (by rw [hbl'] at e; simpa using e)).2.1
        have HP1 : Hid (bn = true → n.path ≠ 1) := fun e => (z1 (by rw [hbn'] at e; simpa using e)).1
        have HMode : Hid (a.mo = (a.mo &&& 511) + if n.dir then 2147483648 else 0) := mode_keep hMO HNo.out.perm (by
          by_cases e : a.mo = modeOf n
          · rw [e, Nat.xor_self, Nat.zero_and]
          · exact (z3 e).2)
        obtain ⟨bt, hbt⟩ : ∃ bt, bt = decide (s.mt ≠ 4294967295) := ⟨_, rfl⟩
        have hlaw := wstat_law HWF.out HL.out s a who now (by rw [HI.out]; exact HA.out) bn bl bt hbn' hbl' hbt HP1.out
        have HLaw : Hid ({ T with L := wL5 bt s n.path (updN (wL2 bn a who now n.path n.parent (wL1 bl a who now n.path T.L)) n.path (wf4 a)) } = wstatT' T n s who now) := by show _ = _; rw [hlaw]; rfl
        have HBT := Lib.hid hbt
        clear hlaw hbt hbn' hbl' z1 z2 z3 HBN HBL HBM HBG hAN hAG hMI hMO
        have HMX : Hid (Mod (Foot ρ) w V) := MV0.out.mono fun _ _ x => x.elim
        clear MV0
        obtain ⟨X, rfl⟩ : ∃ X, X = V := ⟨_, rfl⟩
        have HTX := HTV
        clear HTV
        cases bl with
        | true =>
          have hb := HWB.out
          have hN : X.heap[am n.path]? = some (pnO n (vk n.path)) := HTX.out.node n HNm.out
          have e4 : X.cell? ⟨w.heap.size + 4, 0, none⟩ = some (.pointer (some ⟨am n.path, 0, none⟩)) := hb.c4.cell
          have eB : X.cell? ⟨B2, 8, none⟩ = some (.int .u64 a.len) := (cell_of hb.a 8).trans rfl
          have eL : X.cell? ⟨p2, 0, none⟩ = some (.bool true) := hb.l.cell
          have c14 : X.cell? ⟨am n.path, 14, none⟩ = some (.string n.data) := (cell_of hN 14).trans rfl
          have hal := HLen.out rfl
          have hSz := fun U => msized_any n.data a.len U (by have := HNo.out.data; omega) (by omega)
          have hw : IntKind.i64.wrap (a.len : Int) = a.len := by rw [IntKind.wrap_i64]; omega
          have hNl : am n.path < w.heap.size := HAn.out
          obtain ⟨r, hr⟩ : ∃ r, sizedB n.data a.len = r := ⟨_, rfl⟩
          rw [hr] at hSz
          have HR' := Lib.hid hr
          have HN := Lib.hid hN
          clear hr hb hN
          go_upto_region 15 with (fail)
          refine wp_region_then3 (k := 11) (S := fun w' => Hid (Mod (fun _ => False) X w')) _ _ rfl rfl rfl (by kernel_rfl) (by kernel_rfl) (Lib.hid (Mod.refl (fun _ => False) X).drew) (fun hHeld => ?_)
          simp only [List.take_succ_cons, List.take_zero]
          refine hT 0 rfl (fun wH hSw => by have cH := keepN hSw.out e4; clear hSw; go_simp; all_goals with_reducible rfl) ?_
          try simp only [gA, gB, gC, Act.put, sA, sB, sC]
          refine hT 1 rfl (fun wH hSw => by have cH := keepN hSw.out e4; clear hSw; go_simp; all_goals with_reducible rfl) ?_
          try simp only [gA, gB, gC, Act.put, sA, sB, sC]
          refine hT 2 rfl (fun _ _ => by go_simp; all_goals with_reducible rfl) ?_
          try simp only [gA, gB, gC, Act.put, sA, sB, sC]
          refine hT 3 rfl (fun _ _ => by go_simp; all_goals with_reducible rfl) ?_
          try simp only [gA, gB, gC, Act.put, sA, sB, sC]
          refine hT 4 rfl (fun wH hSw => by have cH := keepN hSw.out c14; clear hSw; go_simp; all_goals with_reducible rfl) ?_
          try simp only [gA, gB, gC, Act.put, sA, sB, sC]
          refine hT 5 rfl (fun _ _ => by go_simp; all_goals with_reducible rfl) ?_
          try simp only [gA, gB, gC, Act.put, sA, sB, sC]
          refine hT 6 rfl (fun wH hSw => by have cH := keepN hSw.out eB; clear hSw; go_simp; all_goals with_reducible rfl) ?_
          try simp only [gA, gB, gC, Act.put, sA, sB, sC]
          refine hT 7 rfl (fun _ _ => by go_simp; all_goals with_reducible rfl) ?_
          try simp only [gA, gB, gC, Act.put, sA, sB, sC]
          refine hR1 8 rfl fun K hK => ?_
          go_simp
          refine (hSz _).mono ?_
          rintro e w4 ⟨rfl, m4⟩
          refine hK.out _ _ (Lib.hid (hHeld.out.trans m4)) ?_; clear hK K hHeld; intro hHeld
          try simp only [gA, gB, gC, Act.put, sA, sB, sC]
          refine hT 9 rfl (fun _ _ => by go_simp; all_goals with_reducible rfl) ?_
          try simp only [gA, gB, gC, Act.put, sA, sB, sC]
          refine hT 10 rfl (fun _ _ => by go_simp; all_goals with_reducible rfl) ?_
          try simp only [gA, gB, gC, Act.put, sA, sB, sC]
          refine wpAnyH_done (by kernel_rfl) ?_ _
          have M4 : Hid (Mod (fun _ => False) X w4) := hHeld.out
          have hN4 : w4.heap[am n.path]? = some (pnO n (vk n.path)) := (M4.out.block _ (lt_of HN.out) (fun x => x)).trans HN.out
          have f14 := free_of hN4 14
          have c14' : w4.cell? ⟨am n.path, 14, none⟩ = some (.string n.data) := (cell_of hN4 14).trans rfl
          obtain ⟨V1, hV1⟩ : ∃ V1, w4.setCell ⟨am n.path, 14, none⟩ (.string r) = V1 := ⟨_, rfl⟩
          have hN1 : V1.heap[am n.path]? = some (pnO { n with data := r } (vk n.path)) := by rw [← hV1]; exact heap_set hN4 14 _
          have m1 : Mod (· = am n.path) w4 V1 := by rw [← hV1]; exact Mod.set1 w4 (am n.path) 14 _
          have HTo := Lib.hid (ptouch_any (am n.path) { n with data := r } (vk n.path) who now V1 hN1 HNo.out.ver)
          have M1 := Lib.hid m1
          clear hHeld m4 hSz c14 e4 eB hN1 m1 hN4
          intro K hK
          go_simp
          refine hK _ _ ?_
          clear hK K hV1 c14' f14
          have MXV : Mod (· < w.heap.size) X V1 := (M4.out.mono fun _ _ x => x.elim).trans (M1.out.mono fun k _ (e : k = am n.path) => by show k < _; omega)
          have hb1 := HWB.out.mod MXV
          have e4 : V1.cell? ⟨w.heap.size + 4, 0, none⟩ = some (.pointer (some ⟨am n.path, 0, none⟩)) := hb1.c4.cell
          have e3 : V1.cell? ⟨w.heap.size + 1 + 1 + 1, 0, none⟩ = some (.string who) := hb1.c3.cell
          clear hb1 MXV
          go_wp2_with fail
          refine HTo.out.mono ?_
          rintro e Y ⟨rfl, hN2, m2⟩
          obtain ⟨HP, HMf⟩ := (HTX.out.mod0 M4.out).setN HWF.out.rise (p := n.path) (f := wf1 a who now) (fun _ => rfl) (fun _ => rfl) HL.out (M1.out.trans m2) (by unfold wf1; rw [HR'.out]; exact hN2)
          have hbY := HWB.out.mod (((M4.out.mono fun _ _ x => x.elim).trans (M1.out.mono fun k _ (e : k = am n.path) => (show k < w.heap.size by omega))).trans (m2.mono fun k _ (e : k = am n.path) => (show k < w.heap.size by omega)))
          have hMY := (HMX.out.trans (M4.out.mono fun _ _ x => x.elim)).trans HMf
          clear HTo e4 e3 HTX HWB HMX HN HR' M4 M1 hN2 m2 HMf hw eL hal hNl
          have HTX : Hid (PTreeP Y ρ b mb cnt { T with L := wL1 true a who now n.path T.L } am vk) := HP
          have HWB := Lib.hid hbY
          have HMX := Lib.hid hMY
          clear HP hbY hMY
          have HLk : Hid (look (wL1 true a who now n.path T.L) n.path = some (wf1 a who now n)) := look_upd (f := wf1 a who now) (fun _ => rfl) HL.out
          have HLd : Hid (n.parent ≠ n.path → look (wL1 true a who now n.path T.L) n.parent = some d) := fun hne => look_upd_ne (f := wf1 a who now) (fun _ => rfl) hne HD.out
          have HRX : Hid ((wL1 true a who now n.path T.L).Pairwise fun a b => a.path < b.path) := upd_rise (f := wf1 a who now) (fun _ => rfl) HWF.out.rise
          have HMd : Hid ((wf1 a who now n).dir = n.dir) := rfl
          obtain ⟨m, hm⟩ : ∃ m, wf1 a who now n = m := ⟨_, rfl⟩
          rw [hm] at HLk HMd
          clear hm
          generalize wL1 true a who now n.path T.L = LX at *
          cases bn with
          | true =>
            have hne : n.parent ≠ n.path := by have := HWF.out.up n HNm.out (HP1.out rfl); omega
            have hb := HWB.out
            have hmm := (look_some HLk.out).1
            have hmp : m.path = n.path := (look_some HLk.out).2
            have hN : Y.heap[am n.path]? = some (pnO m (vk n.path)) := by have := HTX.out.node m hmm; rw [hmp] at this; exact this
            have eN : Y.cell? ⟨p1, 0, none⟩ = some (.bool true) := hb.n.cell
            have e4 : Y.cell? ⟨w.heap.size + 4, 0, none⟩ = some (.pointer (some ⟨am n.path, 0, none⟩)) := hb.c4.cell
            have e9 : Y.cell? ⟨B2, 9, none⟩ = some (.string a.n) := (cell_of hb.a 9).trans rfl
            have c9 : Y.cell? ⟨am n.path, 9, none⟩ = some (.string m.name) := (cell_of hN 9).trans rfl
            have f9 := free_of hN 9
            obtain ⟨Y1, hY1⟩ : ∃ Y1, Y.setCell ⟨am n.path, 9, none⟩ (.string a.n) = Y1 := ⟨_, rfl⟩
            have hN1 : Y1.heap[am n.path]? = some (pnO (wf2 a m) (vk n.path)) := by rw [← hY1]; exact heap_set hN 9 _
            have m1 : Mod (· = am n.path) Y Y1 := by rw [← hY1]; exact Mod.set1 Y (am n.path) 9 _
            obtain ⟨HP1', HMf1⟩ := HTX.out.setN HRX.out (p := n.path) (f := wf2 a) (fun _ => rfl) (fun _ => rfl) HLk.out m1 hN1
            have hl1 : look (updN LX n.path (wf2 a)) n.path = some (wf2 a m) := look_upd (f := wf2 a) (fun _ => rfl) HLk.out
            have hld1 : look (updN LX n.path (wf2 a)) n.parent = some d := look_upd_ne (f := wf2 a) (fun _ => rfl) hne (HLd.out hne)
            have hr1 : (updN LX n.path (wf2 a)).Pairwise fun a b => a.path < b.path := upd_rise (f := wf2 a) (fun _ => rfl) HRX.out
            have hND : Y1.heap[am d.path]? = some (pnO d (vk d.path)) := HP1'.node d (look_some hld1).1
            have HTo := Lib.hid (ptouch_any (am d.path) d (vk d.path) who now Y1 hND (HWF.out.ok d HDm.out).ver)
            have MY1 : Mod (· < w.heap.size) Y Y1 := m1.mono fun k _ (e : k = am n.path) => (show k < w.heap.size by have := HAn.out; omega)
            have hb1 := hb.mod MY1
            have g3 : Y1.cell? ⟨w.heap.size + 1 + 1 + 1, 0, none⟩ = some (.string who) := hb1.c3.cell
            have gD : Y1.cell? ⟨B3, 0, none⟩ = some (.pointer (some ⟨am d.path, 0, none⟩)) := hb1.d.cell
            have HB1 := Lib.hid hb1
            have HTX1 := Lib.hid HP1'
            have HMX1 : Hid (Mod (Foot ρ) w Y1) := HMX.out.trans HMf1
            have HL1 := Lib.hid hl1
            have HLD1 := Lib.hid hld1
            have HR1 := Lib.hid hr1
            have HNe := Lib.hid hne
            clear hb hmm hmp hN hN1 m1 HP1' HMf1 hl1 hld1 hr1 hND MY1 hb1 HTX HWB HMX HLk HLd HRX hne
            go_wp2_with fail
            clear hY1
            refine HTo.out.mono ?_
            rintro e Z ⟨rfl, hN2, m2⟩
            obtain ⟨HP2, HMf2⟩ := HTX1.out.setN HR1.out (p := n.parent) (f := wf3 who now) (fun _ => rfl) (fun _ => rfl) HLD1.out (by rw [← HDp.out]; exact m2) (by rw [← HDp.out]; exact hN2)
            have hbZ := HB1.out.mod (m2.mono fun k _ (e : k = am d.path) => (show k < w.heap.size by have := HAd.out; omega))
            have hMZ := HMX1.out.trans HMf2
            have hMd2 : (wf2 a m).dir = n.dir := HMd.out
            have hLk2 : look (updN (updN LX n.path (wf2 a)) n.parent (wf3 who now)) n.path = some (wf2 a m) := look_upd_ne (f := wf3 who now) (fun _ => rfl) (fun e => HNe.out e.symm) HL1.out
            have hR2 : (updN (updN LX n.path (wf2 a)) n.parent (wf3 who now)).Pairwise fun a b => a.path < b.path := upd_rise (f := wf3 who now) (fun _ => rfl) HR1.out
            clear HTo g3 gD eN e4 e9 c9 f9 HB1 HTX1 HMX1 HL1 HLD1 HR1 HNe hN2 m2 HMf2 HMd
            have HTX : Hid (PTreeP Z ρ b mb cnt { T with L := wL2 true a who now n.path n.parent LX } am vk) := HP2
            have HWB := Lib.hid hbZ
            have HMX := Lib.hid hMZ
            have HLk : Hid (look (wL2 true a who now n.path n.parent LX) n.path = some (wf2 a m)) := hLk2
            have HRX : Hid ((wL2 true a who now n.path n.parent LX).Pairwise fun a b => a.path < b.path) := hR2
            have HMd := Lib.hid hMd2
            clear HP2 hbZ hMZ hLk2 hR2 hMd2
            generalize wL2 true a who now n.path n.parent LX = LY at *
            generalize wf2 a m = q at *
            have hb := HWB.out
            have hmm := (look_some HLk.out).1
            have hmp : q.path = n.path := (look_some HLk.out).2
            have hN : Z.heap[am n.path]? = some (pnO q (vk n.path)) := by have := HTX.out.node q hmm; rw [hmp] at this; exact this
            have hmode : modeOf { q with perm := a.mo &&& 511, gid := a.g } = a.mo := by
              show (a.mo &&& 511) + (if q.dir then 2147483648 else 0) = a.mo
              rw [HMd.out]; exact HMode.out.symm
            have e4 : Z.cell? ⟨w.heap.size + 4, 0, none⟩ = some (.pointer (some ⟨am n.path, 0, none⟩)) := hb.c4.cell
            have e5 : Z.cell? ⟨B2, 5, none⟩ = some (.int .u32 a.mo) := (cell_of hb.a 5).trans rfl
            have e11 : Z.cell? ⟨B2, 11, none⟩ = some (.string a.g) := (cell_of hb.a 11).trans rfl
            have c5 : Z.cell? ⟨am n.path, 5, none⟩ = some (.int .u32 (modeOf q)) := (cell_of hN 5).trans rfl
            have f5 := free_of hN 5
            have hAl : am n.path < w.heap.size := HAn.out
            have hBl : w.heap.size ≤ B2 := hb.g3
            have hND : Z.drew.heap[am n.path]? = some (pnO q (vk n.path)) := hN
            obtain ⟨Z1, hZ1⟩ : ∃ Z1, Z.drew.setCell ⟨am n.path, 5, none⟩ (.int .u32 a.mo) = Z1 := ⟨_, rfl⟩
            have hN1 := heap_set hND 5 (.int .u32 (a.mo : Int))
            rw [hZ1] at hN1
            have c11 : Z1.cell? ⟨am n.path, 11, none⟩ = some (.string q.gid) := (cell_of hN1 11).trans rfl
            have f11 := free_of hN1 11
            obtain ⟨Z2, hZ2⟩ : ∃ Z2, Z1.setCell ⟨am n.path, 11, none⟩ (.string a.g) = Z2 := ⟨_, rfl⟩
            have hN2 := heap_set hN1 11 (.string a.g)
            rw [hZ2] at hN2
            have hN3 : Z2.heap[am n.path]? = some (pnO (wf4 a q) (vk n.path)) := by
              rw [hN2]
              have : pnC (wf4 a q, vk n.path) = ((pnC (q, vk n.path)).set 5 (.int .u32 a.mo)).set 11 (.string a.g) := by
                exact pn_wf4 a q _ hmode
              unfold pnO
              rw [this]
              simp
            have m1 : Mod (· = am n.path) Z Z1 := by rw [← hZ1]; exact ((Mod.refl _ Z).drew).trans (Mod.set1 _ (am n.path) 5 _)
            have m2 : Mod (· = am n.path) Z Z2 := by rw [← hZ2]; exact m1.trans (Mod.set1 _ (am n.path) 11 _)
            obtain ⟨HP, HMf⟩ := HTX.out.setN HRX.out (p := n.path) (f := wf4 a) (fun _ => rfl) (fun _ => rfl) HLk.out m2 hN3
            have hbZ := hb.mod (m2.mono fun k _ (e : k = am n.path) => (show k < w.heap.size by omega))
            have hLk2 : look (updN LY n.path (wf4 a)) n.path = some (wf4 a q) := look_upd (f := wf4 a) (fun _ => rfl) HLk.out
            have hR2 : (updN LY n.path (wf4 a)).Pairwise fun a b => a.path < b.path := upd_rise (f := wf4 a) (fun _ => rfl) HRX.out
            have hMZ := HMX.out.trans HMf
            have M1 := Lib.hid m1
            have M2 := Lib.hid m2
            clear hb hmm hmp hN hmode hND hN1 hN2 hN3 m1 m2 HTX HWB HMX HLk HRX HMf HMd
            have HTX := Lib.hid HP
            have HWB := Lib.hid hbZ
            have HMX := Lib.hid hMZ
            have HLk := Lib.hid hLk2
            have HRX := Lib.hid hR2
            clear HP hbZ hLk2 hR2 hMZ
            go_upto_region 20 with (fail)
            refine wp_region_held_drew (S := fun w' => Hid (Mod (· = am n.path) Z w')) (by kernel_rfl) (Lib.hid (Mod.refl (· = am n.path) Z).drew) (fun hHeld => ?_)
            refine hT 0 rfl (fun wH hSw => by have cH := keepX hSw.out (by omega) e4; clear hSw; go_simp; all_goals with_reducible rfl) ?_
            try simp only [gA, gB, gC, Act.put, sA, sB, sC]
            refine hT 1 rfl (fun wH hSw => by have cH := keepX hSw.out (by omega) e4; clear hSw; go_simp; all_goals with_reducible rfl) ?_
            try simp only [gA, gB, gC, Act.put, sA, sB, sC]
            refine hT 2 rfl (fun _ _ => by go_simp; all_goals with_reducible rfl) ?_
            try simp only [gA, gB, gC, Act.put, sA, sB, sC]
            refine hT 3 rfl (fun wH hSw => by have cH := keepX hSw.out (by omega) e5; clear hSw; go_simp; all_goals with_reducible rfl) ?_
            try simp only [gA, gB, gC, Act.put, sA, sB, sC]
            refine hT 4 rfl (fun _ _ => by go_simp; all_goals with_reducible rfl) ?_
            try simp only [gA, gB, gC, Act.put, sA, sB, sC]
            refine hT 5 rfl (fun wH hSw => by have cH := keepX hSw.out (by omega) e11; clear hSw; go_simp; all_goals with_reducible rfl) ?_
            try simp only [gA, gB, gC, Act.put, sA, sB, sC]
            refine hT 6 rfl (fun _ _ => by go_simp; all_goals with_reducible rfl) ?_
            try simp only [gA, gB, gC, Act.put, sA, sB, sC]
            refine hT 7 rfl (fun _ _ => by go_simp; all_goals with_reducible rfl) ?_
            try simp only [gA, gB, gC, Act.put, sA, sB, sC]
            refine hT 8 rfl (fun _ _ => by go_simp; all_goals with_reducible rfl) ?_
            try simp only [gA, gB, gC, Act.put, sA, sB, sC]
            refine hR1 9 rfl fun K hK => ?_
            go_simp
            refine hK.out _ _ (Lib.hid (M1.out)) ?_; clear hK K hHeld; intro hHeld
            try simp only [gA, gB, gC, Act.put, sA, sB, sC]
            refine hT 10 rfl (fun _ _ => by go_simp; all_goals with_reducible rfl) ?_
            try simp only [gA, gB, gC, Act.put, sA, sB, sC]
            refine hT 11 rfl (fun _ _ => by go_simp; all_goals with_reducible rfl) ?_
            try simp only [gA, gB, gC, Act.put, sA, sB, sC]
            refine hT 12 rfl (fun _ _ => by go_simp; all_goals with_reducible rfl) ?_
            try simp only [gA, gB, gC, Act.put, sA, sB, sC]
            refine hR1 13 rfl fun K hK => ?_
            go_simp
            refine hK.out _ _ (Lib.hid (M2.out)) ?_; clear hK K hHeld; intro hHeld
            try simp only [gA, gB, gC, Act.put, sA, sB, sC]
            refine wpAnyH_done (by kernel_rfl) ?_ _
            clear hHeld hZ1 hZ2 e4 e5 e11 c5 f5 c11 f11 M1 M2
            clear Z1
            have es : Z2.cell? ⟨w.heap.size + 1 + 1, 7, none⟩ = some (.int .u32 s.mt) := (cell_of HWB.out.c2 7).trans rfl
            have hU : ∀ U, Calls Tryz.prog 13 #[] U fun e w' => e = .returned (.agg #[.int .u16 65535, .int .u32 4294967295, .int .u8 255, .int .u32 4294967295, .int .u64 18446744073709551615, .int .u32 4294967295, .int .u32 4294967295, .int .u32 4294967295, .int .u64 18446744073709551615, .string ByteArray.empty, .string ByteArray.empty, .string ByteArray.empty, .string ByteArray.empty]) ∧ Mod (fun _ => False) U w' := fun U => munt_any U
            have hfd : ∀ U : World, (Instr.field 37 (.agg #[.int .u16 65535, .int .u32 4294967295, .int .u8 255, .int .u32 4294967295, .int .u64 18446744073709551615, .int .u32 4294967295, .int .u32 4294967295, .int .u32 4294967295, .int .u64 18446744073709551615, .string ByteArray.empty, .string ByteArray.empty, .string ByteArray.empty, .string ByteArray.empty]) 5).run Tryz.prog U = .ok (.int .u32 4294967295) U := fun _ => by kernel_rfl
            go_upto_region 21 with (fail)
            have tt : ((s.mt : Int) != 4294967295) = bt := by rw [HBT.out, Bool.eq_iff_iff]; simp; omega
            have tt2 : ((s.mt : Int) == 4294967295) = !bt := by rw [HBT.out, Bool.eq_iff_iff]; simp; omega
            refine wp_region_held_drew (S := fun w' => Hid (Mod (fun _ => False) Z2 w')) (by kernel_rfl) (Lib.hid (Mod.refl (fun _ => False) Z2).drew) (fun hHeld => ?_)
            refine hT 0 rfl (fun _ _ => by go_simp; all_goals with_reducible rfl) ?_
            try simp only [gA, gB, gC, Act.put, sA, sB, sC]
            refine hT 1 rfl (fun wH hSw => by have cH := keepN hSw.out es; clear hSw; go_simp; all_goals with_reducible rfl) ?_
            try simp only [gA, gB, gC, Act.put, sA, sB, sC]
            refine hR1 2 rfl fun K hK => ?_
            go_simp
            refine (hU _).mono ?_
            rintro e w4 ⟨rfl, m4⟩
            refine hK.out _ _ (Lib.hid (hHeld.out.trans m4)) ?_; clear hK K hHeld; intro hHeld
            try simp only [gA, gB, gC, Act.put, sA, sB, sC]
            refine hT 3 rfl (fun _ _ => by go_simp; all_goals with_reducible rfl) ?_
            try simp only [gA, gB, gC, Act.put, sA, sB, sC]
            refine hT 4 rfl (fun _ _ => by go_simp; all_goals with_reducible rfl) ?_
            try simp only [gA, gB, gC, Act.put, sA, sB, sC]
            refine wpAnyH_done (by kernel_rfl) ?_ _
            have M4 : Hid (Mod (fun _ => False) Z2 w4) := hHeld.out
            clear hHeld m4 hU tt tt2 es hfd
            have HTX' := Lib.hid (HTX.out.mod0 M4.out)
            have HWB' := Lib.hid (HWB.out.mod (M4.out.mono fun _ _ x => x.elim))
            have HMX' : Hid (Mod (Foot ρ) w w4) := HMX.out.trans (M4.out.mono fun _ _ x => x.elim)
            clear HTX HWB HMX M4
            cases bt with
            | true =>
              have hmm := (look_some HLk.out).1
              have hmp : (wf4 a q).path = n.path := (look_some HLk.out).2
              have hN : w4.heap[am n.path]? = some (pnO (wf4 a q) (vk n.path)) := by have := HTX'.out.node _ hmm; rw [hmp] at this; exact this
              have e4 : w4.cell? ⟨w.heap.size + 4, 0, none⟩ = some (.pointer (some ⟨am n.path, 0, none⟩)) := HWB'.out.c4.cell
              have e7 : w4.cell? ⟨w.heap.size + 1 + 1, 7, none⟩ = some (.int .u32 s.mt) := (cell_of HWB'.out.c2 7).trans rfl
              have c7 : w4.cell? ⟨am n.path, 7, none⟩ = some (.int .u32 (wf4 a q).mtime) := (cell_of hN 7).trans rfl
              have f7 := free_of hN 7
              obtain ⟨w5, hw5⟩ : ∃ w5, w4.setCell ⟨am n.path, 7, none⟩ (.int .u32 s.mt) = w5 := ⟨_, rfl⟩
              have hN1 : w5.heap[am n.path]? = some (pnO (wf5 s (wf4 a q)) (vk n.path)) := by rw [← hw5]; exact heap_set hN 7 _
              have m1 : Mod (· = am n.path) w4 w5 := by rw [← hw5]; exact Mod.set1 w4 (am n.path) 7 _
              obtain ⟨HP, HMf⟩ := HTX'.out.setN HRX.out (p := n.path) (f := wf5 s) (fun _ => rfl) (fun _ => rfl) HLk.out m1 hN1
              have HP := Lib.hid HP
              have HMf : Hid (Mod (Foot ρ) w w5) := HMX'.out.trans HMf
              clear hmm hmp hN hN1 m1 HTX' HWB' HMX' HLk HRX
              go_wp2
              go_ret
              exact ⟨by rw [HV.out]; rfl, by rw [HV.out, ← HLaw.out]; exact HP.out, HMf.out⟩
            | false =>
              go_wp2
              go_ret
              exact ⟨by rw [HV.out]; rfl, by rw [HV.out, ← HLaw.out]; exact HTX'.out, HMX'.out⟩
          | false =>
            have eN : Y.cell? ⟨p1, 0, none⟩ = some (.bool false) := HWB.out.n.cell
            have HTX' : Hid (PTreeP Y ρ b mb cnt { T with L := wL2 false a who now n.path n.parent LX } am vk) := HTX.out
            have HLk' : Hid (look (wL2 false a who now n.path n.parent LX) n.path = some m) := HLk.out
            have HRX' : Hid ((wL2 false a who now n.path n.parent LX).Pairwise fun a b => a.path < b.path) := HRX.out
            clear HTX HLk HRX HLd
            have HTX := HTX'
            have HLk := HLk'
            have HRX := HRX'
            clear HTX' HLk' HRX'
            generalize wL2 false a who now n.path n.parent LX = LY at *
            obtain ⟨Z, rfl⟩ : ∃ Z, Z = Y := ⟨_, rfl⟩
            obtain ⟨q, rfl⟩ : ∃ q, q = m := ⟨_, rfl⟩
            have hb := HWB.out
            have hmm := (look_some HLk.out).1
            have hmp : q.path = n.path := (look_some HLk.out).2
            have hN : Z.heap[am n.path]? = some (pnO q (vk n.path)) := by have := HTX.out.node q hmm; rw [hmp] at this; exact this
            have hmode : modeOf { q with perm := a.mo &&& 511, gid := a.g } = a.mo := by
              show (a.mo &&& 511) + (if q.dir then 2147483648 else 0) = a.mo
              rw [HMd.out]; exact HMode.out.symm
            have e4 : Z.cell? ⟨w.heap.size + 4, 0, none⟩ = some (.pointer (some ⟨am n.path, 0, none⟩)) := hb.c4.cell
            have e5 : Z.cell? ⟨B2, 5, none⟩ = some (.int .u32 a.mo) := (cell_of hb.a 5).trans rfl
            have e11 : Z.cell? ⟨B2, 11, none⟩ = some (.string a.g) := (cell_of hb.a 11).trans rfl
            have c5 : Z.cell? ⟨am n.path, 5, none⟩ = some (.int .u32 (modeOf q)) := (cell_of hN 5).trans rfl
            have f5 := free_of hN 5
            have hAl : am n.path < w.heap.size := HAn.out
            have hBl : w.heap.size ≤ B2 := hb.g3
            have hND : Z.drew.heap[am n.path]? = some (pnO q (vk n.path)) := hN
            obtain ⟨Z1, hZ1⟩ : ∃ Z1, Z.drew.setCell ⟨am n.path, 5, none⟩ (.int .u32 a.mo) = Z1 := ⟨_, rfl⟩
            have hN1 := heap_set hND 5 (.int .u32 (a.mo : Int))
            rw [hZ1] at hN1
            have c11 : Z1.cell? ⟨am n.path, 11, none⟩ = some (.string q.gid) := (cell_of hN1 11).trans rfl
            have f11 := free_of hN1 11
            obtain ⟨Z2, hZ2⟩ : ∃ Z2, Z1.setCell ⟨am n.path, 11, none⟩ (.string a.g) = Z2 := ⟨_, rfl⟩
            have hN2 := heap_set hN1 11 (.string a.g)
            rw [hZ2] at hN2
            have hN3 : Z2.heap[am n.path]? = some (pnO (wf4 a q) (vk n.path)) := by
              rw [hN2]
              have : pnC (wf4 a q, vk n.path) = ((pnC (q, vk n.path)).set 5 (.int .u32 a.mo)).set 11 (.string a.g) := by
                exact pn_wf4 a q _ hmode
              unfold pnO
              rw [this]
              simp
            have m1 : Mod (· = am n.path) Z Z1 := by rw [← hZ1]; exact ((Mod.refl _ Z).drew).trans (Mod.set1 _ (am n.path) 5 _)
            have m2 : Mod (· = am n.path) Z Z2 := by rw [← hZ2]; exact m1.trans (Mod.set1 _ (am n.path) 11 _)
            obtain ⟨HP, HMf⟩ := HTX.out.setN HRX.out (p := n.path) (f := wf4 a) (fun _ => rfl) (fun _ => rfl) HLk.out m2 hN3
            have hbZ := hb.mod (m2.mono fun k _ (e : k = am n.path) => (show k < w.heap.size by omega))
            have hLk2 : look (updN LY n.path (wf4 a)) n.path = some (wf4 a q) := look_upd (f := wf4 a) (fun _ => rfl) HLk.out
            have hR2 : (updN LY n.path (wf4 a)).Pairwise fun a b => a.path < b.path := upd_rise (f := wf4 a) (fun _ => rfl) HRX.out
            have hMZ := HMX.out.trans HMf
            have M1 := Lib.hid m1
            have M2 := Lib.hid m2
            clear hb hmm hmp hN hmode hND hN1 hN2 hN3 m1 m2 HTX HWB HMX HLk HRX HMf HMd
            have HTX := Lib.hid HP
            have HWB := Lib.hid hbZ
            have HMX := Lib.hid hMZ
            have HLk := Lib.hid hLk2
            have HRX := Lib.hid hR2
            clear HP hbZ hLk2 hR2 hMZ
            go_upto_region 20 with (fail)
            refine wp_region_held_drew (S := fun w' => Hid (Mod (· = am n.path) Z w')) (by kernel_rfl) (Lib.hid (Mod.refl (· = am n.path) Z).drew) (fun hHeld => ?_)
            refine hT 0 rfl (fun wH hSw => by have cH := keepX hSw.out (by omega) e4; clear hSw; go_simp; all_goals with_reducible rfl) ?_
            try simp only [gA, gB, gC, Act.put, sA, sB, sC]
            refine hT 1 rfl (fun wH hSw => by have cH := keepX hSw.out (by omega) e4; clear hSw; go_simp; all_goals with_reducible rfl) ?_
            try simp only [gA, gB, gC, Act.put, sA, sB, sC]
            refine hT 2 rfl (fun _ _ => by go_simp; all_goals with_reducible rfl) ?_
            try simp only [gA, gB, gC, Act.put, sA, sB, sC]
            refine hT 3 rfl (fun wH hSw => by have cH := keepX hSw.out (by omega) e5; clear hSw; go_simp; all_goals with_reducible rfl) ?_
            try simp only [gA, gB, gC, Act.put, sA, sB, sC]
            refine hT 4 rfl (fun _ _ => by go_simp; all_goals with_reducible rfl) ?_
            try simp only [gA, gB, gC, Act.put, sA, sB, sC]
            refine hT 5 rfl (fun wH hSw => by have cH := keepX hSw.out (by omega) e11; clear hSw; go_simp; all_goals with_reducible rfl) ?_
            try simp only [gA, gB, gC, Act.put, sA, sB, sC]
            refine hT 6 rfl (fun _ _ => by go_simp; all_goals with_reducible rfl) ?_
            try simp only [gA, gB, gC, Act.put, sA, sB, sC]
            refine hT 7 rfl (fun _ _ => by go_simp; all_goals with_reducible rfl) ?_
            try simp only [gA, gB, gC, Act.put, sA, sB, sC]
            refine hT 8 rfl (fun _ _ => by go_simp; all_goals with_reducible rfl) ?_
            try simp only [gA, gB, gC, Act.put, sA, sB, sC]
            refine hR1 9 rfl fun K hK => ?_
            go_simp
            refine hK.out _ _ (Lib.hid (M1.out)) ?_; clear hK K hHeld; intro hHeld
            try simp only [gA, gB, gC, Act.put, sA, sB, sC]
            refine hT 10 rfl (fun _ _ => by go_simp; all_goals with_reducible rfl) ?_
            try simp only [gA, gB, gC, Act.put, sA, sB, sC]
            refine hT 11 rfl (fun _ _ => by go_simp; all_goals with_reducible rfl) ?_
            try simp only [gA, gB, gC, Act.put, sA, sB, sC]
            refine hT 12 rfl (fun _ _ => by go_simp; all_goals with_reducible rfl) ?_
            try simp only [gA, gB, gC, Act.put, sA, sB, sC]
            refine hR1 13 rfl fun K hK => ?_
            go_simp
            refine hK.out _ _ (Lib.hid (M2.out)) ?_; clear hK K hHeld; intro hHeld
            try simp only [gA, gB, gC, Act.put, sA, sB, sC]
            refine wpAnyH_done (by kernel_rfl) ?_ _
            clear hHeld hZ1 hZ2 e4 e5 e11 c5 f5 c11 f11 M1 M2
            clear Z1
            have es : Z2.cell? ⟨w.heap.size + 1 + 1, 7, none⟩ = some (.int .u32 s.mt) := (cell_of HWB.out.c2 7).trans rfl
            have hU : ∀ U, Calls Tryz.prog 13 #[] U fun e w' => e = .returned (.agg #[.int .u16 65535, .int .u32 4294967295, .int .u8 255, .int .u32 4294967295, .int .u64 18446744073709551615, .int .u32 4294967295, .int .u32 4294967295, .int .u32 4294967295, .int .u64 18446744073709551615, .string ByteArray.empty, .string ByteArray.empty, .string ByteArray.empty, .string ByteArray.empty]) ∧ Mod (fun _ => False) U w' := fun U => munt_any U
            have hfd : ∀ U : World, (Instr.field 37 (.agg #[.int .u16 65535, .int .u32 4294967295, .int .u8 255, .int .u32 4294967295, .int .u64 18446744073709551615, .int .u32 4294967295, .int .u32 4294967295, .int .u32 4294967295, .int .u64 18446744073709551615, .string ByteArray.empty, .string ByteArray.empty, .string ByteArray.empty, .string ByteArray.empty]) 5).run Tryz.prog U = .ok (.int .u32 4294967295) U := fun _ => by kernel_rfl
            go_upto_region 21 with (fail)
            have tt : ((s.mt : Int) != 4294967295) = bt := by rw [HBT.out, Bool.eq_iff_iff]; simp; omega
            have tt2 : ((s.mt : Int) == 4294967295) = !bt := by rw [HBT.out, Bool.eq_iff_iff]; simp; omega
            refine wp_region_held_drew (S := fun w' => Hid (Mod (fun _ => False) Z2 w')) (by kernel_rfl) (Lib.hid (Mod.refl (fun _ => False) Z2).drew) (fun hHeld => ?_)
            refine hT 0 rfl (fun _ _ => by go_simp; all_goals with_reducible rfl) ?_
            try simp only [gA, gB, gC, Act.put, sA, sB, sC]
            refine hT 1 rfl (fun wH hSw => by have cH := keepN hSw.out es; clear hSw; go_simp; all_goals with_reducible rfl) ?_
            try simp only [gA, gB, gC, Act.put, sA, sB, sC]
            refine hR1 2 rfl fun K hK => ?_
            go_simp
            refine (hU _).mono ?_
            rintro e w4 ⟨rfl, m4⟩
            refine hK.out _ _ (Lib.hid (hHeld.out.trans m4)) ?_; clear hK K hHeld; intro hHeld
            try simp only [gA, gB, gC, Act.put, sA, sB, sC]
            refine hT 3 rfl (fun _ _ => by go_simp; all_goals with_reducible rfl) ?_
            try simp only [gA, gB, gC, Act.put, sA, sB, sC]
            refine hT 4 rfl (fun _ _ => by go_simp; all_goals with_reducible rfl) ?_
            try simp only [gA, gB, gC, Act.put, sA, sB, sC]
            refine wpAnyH_done (by kernel_rfl) ?_ _
            have M4 : Hid (Mod (fun _ => False) Z2 w4) := hHeld.out
            clear hHeld m4 hU tt tt2 es hfd
            have HTX' := Lib.hid (HTX.out.mod0 M4.out)
            have HWB' := Lib.hid (HWB.out.mod (M4.out.mono fun _ _ x => x.elim))
            have HMX' : Hid (Mod (Foot ρ) w w4) := HMX.out.trans (M4.out.mono fun _ _ x => x.elim)
            clear HTX HWB HMX M4
            cases bt with
            | true =>
              have hmm := (look_some HLk.out).1
              have hmp : (wf4 a q).path = n.path := (look_some HLk.out).2
              have hN : w4.heap[am n.path]? = some (pnO (wf4 a q) (vk n.path)) := by have := HTX'.out.node _ hmm; rw [hmp] at this; exact this
              have e4 : w4.cell? ⟨w.heap.size + 4, 0, none⟩ = some (.pointer (some ⟨am n.path, 0, none⟩)) := HWB'.out.c4.cell
              have e7 : w4.cell? ⟨w.heap.size + 1 + 1, 7, none⟩ = some (.int .u32 s.mt) := (cell_of HWB'.out.c2 7).trans rfl
              have c7 : w4.cell? ⟨am n.path, 7, none⟩ = some (.int .u32 (wf4 a q).mtime) := (cell_of hN 7).trans rfl
              have f7 := free_of hN 7
              obtain ⟨w5, hw5⟩ : ∃ w5, w4.setCell ⟨am n.path, 7, none⟩ (.int .u32 s.mt) = w5 := ⟨_, rfl⟩
              have hN1 : w5.heap[am n.path]? = some (pnO (wf5 s (wf4 a q)) (vk n.path)) := by rw [← hw5]; exact heap_set hN 7 _
              have m1 : Mod (· = am n.path) w4 w5 := by rw [← hw5]; exact Mod.set1 w4 (am n.path) 7 _
              obtain ⟨HP, HMf⟩ := HTX'.out.setN HRX.out (p := n.path) (f := wf5 s) (fun _ => rfl) (fun _ => rfl) HLk.out m1 hN1
              have HP := Lib.hid HP
              have HMf : Hid (Mod (Foot ρ) w w5) := HMX'.out.trans HMf
              clear hmm hmp hN hN1 m1 HTX' HWB' HMX' HLk HRX
              go_wp2
              go_ret
              exact ⟨by rw [HV.out]; rfl, by rw [HV.out, ← HLaw.out]; exact HP.out, HMf.out⟩
            | false =>
              go_wp2
              go_ret
              exact ⟨by rw [HV.out]; rfl, by rw [HV.out, ← HLaw.out]; exact HTX'.out, HMX'.out⟩
        | false =>
          have eL : X.cell? ⟨p2, 0, none⟩ = some (.bool false) := HWB.out.l.cell
          have HLk : Hid (look (wL1 false a who now n.path T.L) n.path = some n) := HL.out
          have HLd : Hid (n.parent ≠ n.path → look (wL1 false a who now n.path T.L) n.parent = some d) := fun _ => HD.out
          have HRX : Hid ((wL1 false a who now n.path T.L).Pairwise fun a b => a.path < b.path) := HWF.out.rise
          have HMd : Hid (n.dir = n.dir) := rfl
          have HTX' : Hid (PTreeP X ρ b mb cnt { T with L := wL1 false a who now n.path T.L } am vk) := HTX.out
          clear HTX
          have HTX := HTX'
          clear HTX'
          obtain ⟨m, hm⟩ : ∃ m, m = n := ⟨_, rfl⟩
          have HLk' : Hid (look (wL1 false a who now n.path T.L) n.path = some m) := by rw [hm]; exact HLk
          have HMd' : Hid (m.dir = n.dir) := by show _ = _; rw [hm]
          clear HLk HMd hm
          have HLk := HLk'
          have HMd := HMd'
          clear HLk' HMd'
          obtain ⟨Y, rfl⟩ : ∃ Y, Y = X := ⟨_, rfl⟩
          generalize wL1 false a who now n.path T.L = LX at *
          cases bn with
          | true =>
            have hne : n.parent ≠ n.path := by have := HWF.out.up n HNm.out (HP1.out rfl); omega
            have hb := HWB.out
            have hmm := (look_some HLk.out).1
            have hmp : m.path = n.path := (look_some HLk.out).2
            have hN : Y.heap[am n.path]? = some (pnO m (vk n.path)) := by have := HTX.out.node m hmm; rw [hmp] at this; exact this
            have eN : Y.cell? ⟨p1, 0, none⟩ = some (.bool true) := hb.n.cell
            have e4 : Y.cell? ⟨w.heap.size + 4, 0, none⟩ = some (.pointer (some ⟨am n.path, 0, none⟩)) := hb.c4.cell
            have e9 : Y.cell? ⟨B2, 9, none⟩ = some (.string a.n) := (cell_of hb.a 9).trans rfl
            have c9 : Y.cell? ⟨am n.path, 9, none⟩ = some (.string m.name) := (cell_of hN 9).trans rfl
            have f9 := free_of hN 9
            obtain ⟨Y1, hY1⟩ : ∃ Y1, Y.setCell ⟨am n.path, 9, none⟩ (.string a.n) = Y1 := ⟨_, rfl⟩
            have hN1 : Y1.heap[am n.path]? = some (pnO (wf2 a m) (vk n.path)) := by rw [← hY1]; exact heap_set hN 9 _
            have m1 : Mod (· = am n.path) Y Y1 := by rw [← hY1]; exact Mod.set1 Y (am n.path) 9 _
            obtain ⟨HP1', HMf1⟩ := HTX.out.setN HRX.out (p := n.path) (f := wf2 a) (fun _ => rfl) (fun _ => rfl) HLk.out m1 hN1
            have hl1 : look (updN LX n.path (wf2 a)) n.path = some (wf2 a m) := look_upd (f := wf2 a) (fun _ => rfl) HLk.out
            have hld1 : look (updN LX n.path (wf2 a)) n.parent = some d := look_upd_ne (f := wf2 a) (fun _ => rfl) hne (HLd.out hne)
            have hr1 : (updN LX n.path (wf2 a)).Pairwise fun a b => a.path < b.path := upd_rise (f := wf2 a) (fun _ => rfl) HRX.out
            have hND : Y1.heap[am d.path]? = some (pnO d (vk d.path)) := HP1'.node d (look_some hld1).1
            have HTo := Lib.hid (ptouch_any (am d.path) d (vk d.path) who now Y1 hND (HWF.out.ok d HDm.out).ver)
            have MY1 : Mod (· < w.heap.size) Y Y1 := m1.mono fun k _ (e : k = am n.path) => (show k < w.heap.size by have := HAn.out; omega)
            have hb1 := hb.mod MY1
            have g3 : Y1.cell? ⟨w.heap.size + 1 + 1 + 1, 0, none⟩ = some (.string who) := hb1.c3.cell
            have gD : Y1.cell? ⟨B3, 0, none⟩ = some (.pointer (some ⟨am d.path, 0, none⟩)) := hb1.d.cell
            have HB1 := Lib.hid hb1
            have HTX1 := Lib.hid HP1'
            have HMX1 : Hid (Mod (Foot ρ) w Y1) := HMX.out.trans HMf1
            have HL1 := Lib.hid hl1
            have HLD1 := Lib.hid hld1
            have HR1 := Lib.hid hr1
            have HNe := Lib.hid hne
            clear hb hmm hmp hN hN1 m1 HP1' HMf1 hl1 hld1 hr1 hND MY1 hb1 HTX HWB HMX HLk HLd HRX hne
            go_wp2_with fail
            clear hY1
            refine HTo.out.mono ?_
            rintro e Z ⟨rfl, hN2, m2⟩
            obtain ⟨HP2, HMf2⟩ := HTX1.out.setN HR1.out (p := n.parent) (f := wf3 who now) (fun _ => rfl) (fun _ => rfl) HLD1.out (by rw [← HDp.out]; exact m2) (by rw [← HDp.out]; exact hN2)
            have hbZ := HB1.out.mod (m2.mono fun k _ (e : k = am d.path) => (show k < w.heap.size by have := HAd.out; omega))
            have hMZ := HMX1.out.trans HMf2
            have hMd2 : (wf2 a m).dir = n.dir := HMd.out
            have hLk2 : look (updN (updN LX n.path (wf2 a)) n.parent (wf3 who now)) n.path = some (wf2 a m) := look_upd_ne (f := wf3 who now) (fun _ => rfl) (fun e => HNe.out e.symm) HL1.out
            have hR2 : (updN (updN LX n.path (wf2 a)) n.parent (wf3 who now)).Pairwise fun a b => a.path < b.path := upd_rise (f := wf3 who now) (fun _ => rfl) HR1.out
            clear HTo g3 gD eN e4 e9 c9 f9 HB1 HTX1 HMX1 HL1 HLD1 HR1 HNe hN2 m2 HMf2 HMd
            have HTX : Hid (PTreeP Z ρ b mb cnt { T with L := wL2 true a who now n.path n.parent LX } am vk) := HP2
            have HWB := Lib.hid hbZ
            have HMX := Lib.hid hMZ
            have HLk : Hid (look (wL2 true a who now n.path n.parent LX) n.path = some (wf2 a m)) := hLk2
            have HRX : Hid ((wL2 true a who now n.path n.parent LX).Pairwise fun a b => a.path < b.path) := hR2
            have HMd := Lib.hid hMd2
            clear HP2 hbZ hMZ hLk2 hR2 hMd2
            generalize wL2 true a who now n.path n.parent LX = LY at *
            generalize wf2 a m = q at *
            have hb := HWB.out
            have hmm := (look_some HLk.out).1
            have hmp : q.path = n.path := (look_some HLk.out).2
            have hN : Z.heap[am n.path]? = some (pnO q (vk n.path)) := by have := HTX.out.node q hmm; rw [hmp] at this; exact this
            have hmode : modeOf { q with perm := a.mo &&& 511, gid := a.g } = a.mo := by
              show (a.mo &&& 511) + (if q.dir then 2147483648 else 0) = a.mo
              rw [HMd.out]; exact HMode.out.symm
            have e4 : Z.cell? ⟨w.heap.size + 4, 0, none⟩ = some (.pointer (some ⟨am n.path, 0, none⟩)) := hb.c4.cell
            have e5 : Z.cell? ⟨B2, 5, none⟩ = some (.int .u32 a.mo) := (cell_of hb.a 5).trans rfl
            have e11 : Z.cell? ⟨B2, 11, none⟩ = some (.string a.g) := (cell_of hb.a 11).trans rfl
            have c5 : Z.cell? ⟨am n.path, 5, none⟩ = some (.int .u32 (modeOf q)) := (cell_of hN 5).trans rfl
            have f5 := free_of hN 5
            have hAl : am n.path < w.heap.size := HAn.out
            have hBl : w.heap.size ≤ B2 := hb.g3
            have hND : Z.drew.heap[am n.path]? = some (pnO q (vk n.path)) := hN
            obtain ⟨Z1, hZ1⟩ : ∃ Z1, Z.drew.setCell ⟨am n.path, 5, none⟩ (.int .u32 a.mo) = Z1 := ⟨_, rfl⟩
            have hN1 := heap_set hND 5 (.int .u32 (a.mo : Int))
            rw [hZ1] at hN1
            have c11 : Z1.cell? ⟨am n.path, 11, none⟩ = some (.string q.gid) := (cell_of hN1 11).trans rfl
            have f11 := free_of hN1 11
            obtain ⟨Z2, hZ2⟩ : ∃ Z2, Z1.setCell ⟨am n.path, 11, none⟩ (.string a.g) = Z2 := ⟨_, rfl⟩
            have hN2 := heap_set hN1 11 (.string a.g)
            rw [hZ2] at hN2
            have hN3 : Z2.heap[am n.path]? = some (pnO (wf4 a q) (vk n.path)) := by
              rw [hN2]
              have : pnC (wf4 a q, vk n.path) = ((pnC (q, vk n.path)).set 5 (.int .u32 a.mo)).set 11 (.string a.g) := by
                exact pn_wf4 a q _ hmode
              unfold pnO
              rw [this]
              simp
            have m1 : Mod (· = am n.path) Z Z1 := by rw [← hZ1]; exact ((Mod.refl _ Z).drew).trans (Mod.set1 _ (am n.path) 5 _)
            have m2 : Mod (· = am n.path) Z Z2 := by rw [← hZ2]; exact m1.trans (Mod.set1 _ (am n.path) 11 _)
            obtain ⟨HP, HMf⟩ := HTX.out.setN HRX.out (p := n.path) (f := wf4 a) (fun _ => rfl) (fun _ => rfl) HLk.out m2 hN3
            have hbZ := hb.mod (m2.mono fun k _ (e : k = am n.path) => (show k < w.heap.size by omega))
            have hLk2 : look (updN LY n.path (wf4 a)) n.path = some (wf4 a q) := look_upd (f := wf4 a) (fun _ => rfl) HLk.out
            have hR2 : (updN LY n.path (wf4 a)).Pairwise fun a b => a.path < b.path := upd_rise (f := wf4 a) (fun _ => rfl) HRX.out
            have hMZ := HMX.out.trans HMf
            have M1 := Lib.hid m1
            have M2 := Lib.hid m2
            clear hb hmm hmp hN hmode hND hN1 hN2 hN3 m1 m2 HTX HWB HMX HLk HRX HMf HMd
            have HTX := Lib.hid HP
            have HWB := Lib.hid hbZ
            have HMX := Lib.hid hMZ
            have HLk := Lib.hid hLk2
            have HRX := Lib.hid hR2
            clear HP hbZ hLk2 hR2 hMZ
            go_upto_region 20 with (fail)
            refine wp_region_held_drew (S := fun w' => Hid (Mod (· = am n.path) Z w')) (by kernel_rfl) (Lib.hid (Mod.refl (· = am n.path) Z).drew) (fun hHeld => ?_)
            refine hT 0 rfl (fun wH hSw => by have cH := keepX hSw.out (by omega) e4; clear hSw; go_simp; all_goals with_reducible rfl) ?_
            try simp only [gA, gB, gC, Act.put, sA, sB, sC]
            refine hT 1 rfl (fun wH hSw => by have cH := keepX hSw.out (by omega) e4; clear hSw; go_simp; all_goals with_reducible rfl) ?_
            try simp only [gA, gB, gC, Act.put, sA, sB, sC]
            refine hT 2 rfl (fun _ _ => by go_simp; all_goals with_reducible rfl) ?_
            try simp only [gA, gB, gC, Act.put, sA, sB, sC]
            refine hT 3 rfl (fun wH hSw => by have cH := keepX hSw.out (by omega) e5; clear hSw; go_simp; all_goals with_reducible rfl) ?_
            try simp only [gA, gB, gC, Act.put, sA, sB, sC]
            refine hT 4 rfl (fun _ _ => by go_simp; all_goals with_reducible rfl) ?_
            try simp only [gA, gB, gC, Act.put, sA, sB, sC]
            refine hT 5 rfl (fun wH hSw => by have cH := keepX hSw.out (by omega) e11; clear hSw; go_simp; all_goals with_reducible rfl) ?_
            try simp only [gA, gB, gC, Act.put, sA, sB, sC]
            refine hT 6 rfl (fun _ _ => by go_simp; all_goals with_reducible rfl) ?_
            try simp only [gA, gB, gC, Act.put, sA, sB, sC]
            refine hT 7 rfl (fun _ _ => by go_simp; all_goals with_reducible rfl) ?_
            try simp only [gA, gB, gC, Act.put, sA, sB, sC]
            refine hT 8 rfl (fun _ _ => by go_simp; all_goals with_reducible rfl) ?_
            try simp only [gA, gB, gC, Act.put, sA, sB, sC]
            refine hR1 9 rfl fun K hK => ?_
            go_simp
            refine hK.out _ _ (Lib.hid (M1.out)) ?_; clear hK K hHeld; intro hHeld
            try simp only [gA, gB, gC, Act.put, sA, sB, sC]
            refine hT 10 rfl (fun _ _ => by go_simp; all_goals with_reducible rfl) ?_
            try simp only [gA, gB, gC, Act.put, sA, sB, sC]
            refine hT 11 rfl (fun _ _ => by go_simp; all_goals with_reducible rfl) ?_
            try simp only [gA, gB, gC, Act.put, sA, sB, sC]
            refine hT 12 rfl (fun _ _ => by go_simp; all_goals with_reducible rfl) ?_
            try simp only [gA, gB, gC, Act.put, sA, sB, sC]
            refine hR1 13 rfl fun K hK => ?_
            go_simp
            refine hK.out _ _ (Lib.hid (M2.out)) ?_; clear hK K hHeld; intro hHeld
            try simp only [gA, gB, gC, Act.put, sA, sB, sC]
            refine wpAnyH_done (by kernel_rfl) ?_ _
            clear hHeld hZ1 hZ2 e4 e5 e11 c5 f5 c11 f11 M1 M2
            clear Z1
            have es : Z2.cell? ⟨w.heap.size + 1 + 1, 7, none⟩ = some (.int .u32 s.mt) := (cell_of HWB.out.c2 7).trans rfl
            have hU : ∀ U, Calls Tryz.prog 13 #[] U fun e w' => e = .returned (.agg #[.int .u16 65535, .int .u32 4294967295, .int .u8 255, .int .u32 4294967295, .int .u64 18446744073709551615, .int .u32 4294967295, .int .u32 4294967295, .int .u32 4294967295, .int .u64 18446744073709551615, .string ByteArray.empty, .string ByteArray.empty, .string ByteArray.empty, .string ByteArray.empty]) ∧ Mod (fun _ => False) U w' := fun U => munt_any U
            have hfd : ∀ U : World, (Instr.field 37 (.agg #[.int .u16 65535, .int .u32 4294967295, .int .u8 255, .int .u32 4294967295, .int .u64 18446744073709551615, .int .u32 4294967295, .int .u32 4294967295, .int .u32 4294967295, .int .u64 18446744073709551615, .string ByteArray.empty, .string ByteArray.empty, .string ByteArray.empty, .string ByteArray.empty]) 5).run Tryz.prog U = .ok (.int .u32 4294967295) U := fun _ => by kernel_rfl
            go_upto_region 21 with (fail)
            have tt : ((s.mt : Int) != 4294967295) = bt := by rw [HBT.out, Bool.eq_iff_iff]; simp; omega
            have tt2 : ((s.mt : Int) == 4294967295) = !bt := by rw [HBT.out, Bool.eq_iff_iff]; simp; omega
            refine wp_region_held_drew (S := fun w' => Hid (Mod (fun _ => False) Z2 w')) (by kernel_rfl) (Lib.hid (Mod.refl (fun _ => False) Z2).drew) (fun hHeld => ?_)
            refine hT 0 rfl (fun _ _ => by go_simp; all_goals with_reducible rfl) ?_
            try simp only [gA, gB, gC, Act.put, sA, sB, sC]
            refine hT 1 rfl (fun wH hSw => by have cH := keepN hSw.out es; clear hSw; go_simp; all_goals with_reducible rfl) ?_
            try simp only [gA, gB, gC, Act.put, sA, sB, sC]
            refine hR1 2 rfl fun K hK => ?_
            go_simp
            refine (hU _).mono ?_
            rintro e w4 ⟨rfl, m4⟩
            refine hK.out _ _ (Lib.hid (hHeld.out.trans m4)) ?_; clear hK K hHeld; intro hHeld
            try simp only [gA, gB, gC, Act.put, sA, sB, sC]
            refine hT 3 rfl (fun _ _ => by go_simp; all_goals with_reducible rfl) ?_
            try simp only [gA, gB, gC, Act.put, sA, sB, sC]
            refine hT 4 rfl (fun _ _ => by go_simp; all_goals with_reducible rfl) ?_
            try simp only [gA, gB, gC, Act.put, sA, sB, sC]
            refine wpAnyH_done (by kernel_rfl) ?_ _
            have M4 : Hid (Mod (fun _ => False) Z2 w4) := hHeld.out
            clear hHeld m4 hU tt tt2 es hfd
            have HTX' := Lib.hid (HTX.out.mod0 M4.out)
            have HWB' := Lib.hid (HWB.out.mod (M4.out.mono fun _ _ x => x.elim))
            have HMX' : Hid (Mod (Foot ρ) w w4) := HMX.out.trans (M4.out.mono fun _ _ x => x.elim)
            clear HTX HWB HMX M4
            cases bt with
            | true =>
              have hmm := (look_some HLk.out).1
              have hmp : (wf4 a q).path = n.path := (look_some HLk.out).2
              have hN : w4.heap[am n.path]? = some (pnO (wf4 a q) (vk n.path)) := by have := HTX'.out.node _ hmm; rw [hmp] at this; exact this
              have e4 : w4.cell? ⟨w.heap.size + 4, 0, none⟩ = some (.pointer (some ⟨am n.path, 0, none⟩)) := HWB'.out.c4.cell
              have e7 : w4.cell? ⟨w.heap.size + 1 + 1, 7, none⟩ = some (.int .u32 s.mt) := (cell_of HWB'.out.c2 7).trans rfl
              have c7 : w4.cell? ⟨am n.path, 7, none⟩ = some (.int .u32 (wf4 a q).mtime) := (cell_of hN 7).trans rfl
              have f7 := free_of hN 7
              obtain ⟨w5, hw5⟩ : ∃ w5, w4.setCell ⟨am n.path, 7, none⟩ (.int .u32 s.mt) = w5 := ⟨_, rfl⟩
              have hN1 : w5.heap[am n.path]? = some (pnO (wf5 s (wf4 a q)) (vk n.path)) := by rw [← hw5]; exact heap_set hN 7 _
              have m1 : Mod (· = am n.path) w4 w5 := by rw [← hw5]; exact Mod.set1 w4 (am n.path) 7 _
              obtain ⟨HP, HMf⟩ := HTX'.out.setN HRX.out (p := n.path) (f := wf5 s) (fun _ => rfl) (fun _ => rfl) HLk.out m1 hN1
              have HP := Lib.hid HP
              have HMf : Hid (Mod (Foot ρ) w w5) := HMX'.out.trans HMf
              clear hmm hmp hN hN1 m1 HTX' HWB' HMX' HLk HRX
              go_wp2
              go_ret
              exact ⟨by rw [HV.out]; rfl, by rw [HV.out, ← HLaw.out]; exact HP.out, HMf.out⟩
            | false =>
              go_wp2
              go_ret
              exact ⟨by rw [HV.out]; rfl, by rw [HV.out, ← HLaw.out]; exact HTX'.out, HMX'.out⟩
          | false =>
            have eN : Y.cell? ⟨p1, 0, none⟩ = some (.bool false) := HWB.out.n.cell
            have HTX' : Hid (PTreeP Y ρ b mb cnt { T with L := wL2 false a who now n.path n.parent LX } am vk) := HTX.out
            have HLk' : Hid (look (wL2 false a who now n.path n.parent LX) n.path = some m) := HLk.out
            have HRX' : Hid ((wL2 false a who now n.path n.parent LX).Pairwise fun a b => a.path < b.path) := HRX.out
            clear HTX HLk HRX HLd
            have HTX := HTX'
            have HLk := HLk'
            have HRX := HRX'
            clear HTX' HLk' HRX'
            generalize wL2 false a who now n.path n.parent LX = LY at *
            obtain ⟨Z, rfl⟩ : ∃ Z, Z = Y := ⟨_, rfl⟩
            obtain ⟨q, rfl⟩ : ∃ q, q = m := ⟨_, rfl⟩
            have hb := HWB.out
            have hmm := (look_some HLk.out).1
            have hmp : q.path = n.path := (look_some HLk.out).2
            have hN : Z.heap[am n.path]? = some (pnO q (vk n.path)) := by have := HTX.out.node q hmm; rw [hmp] at this; exact this
            have hmode : modeOf { q with perm := a.mo &&& 511, gid := a.g } = a.mo := by
              show (a.mo &&& 511) + (if q.dir then 2147483648 else 0) = a.mo
              rw [HMd.out]; exact HMode.out.symm
            have e4 : Z.cell? ⟨w.heap.size + 4, 0, none⟩ = some (.pointer (some ⟨am n.path, 0, none⟩)) := hb.c4.cell
            have e5 : Z.cell? ⟨B2, 5, none⟩ = some (.int .u32 a.mo) := (cell_of hb.a 5).trans rfl
            have e11 : Z.cell? ⟨B2, 11, none⟩ = some (.string a.g) := (cell_of hb.a 11).trans rfl
            have c5 : Z.cell? ⟨am n.path, 5, none⟩ = some (.int .u32 (modeOf q)) := (cell_of hN 5).trans rfl
            have f5 := free_of hN 5
            have hAl : am n.path < w.heap.size := HAn.out
            have hBl : w.heap.size ≤ B2 := hb.g3
            have hND : Z.drew.heap[am n.path]? = some (pnO q (vk n.path)) := hN
            obtain ⟨Z1, hZ1⟩ : ∃ Z1, Z.drew.setCell ⟨am n.path, 5, none⟩ (.int .u32 a.mo) = Z1 := ⟨_, rfl⟩
            have hN1 := heap_set hND 5 (.int .u32 (a.mo : Int))
            rw [hZ1] at hN1
            have c11 : Z1.cell? ⟨am n.path, 11, none⟩ = some (.string q.gid) := (cell_of hN1 11).trans rfl
            have f11 := free_of hN1 11
            obtain ⟨Z2, hZ2⟩ : ∃ Z2, Z1.setCell ⟨am n.path, 11, none⟩ (.string a.g) = Z2 := ⟨_, rfl⟩
            have hN2 := heap_set hN1 11 (.string a.g)
            rw [hZ2] at hN2
            have hN3 : Z2.heap[am n.path]? = some (pnO (wf4 a q) (vk n.path)) := by
              rw [hN2]
              have : pnC (wf4 a q, vk n.path) = ((pnC (q, vk n.path)).set 5 (.int .u32 a.mo)).set 11 (.string a.g) := by
                exact pn_wf4 a q _ hmode
              unfold pnO
              rw [this]
              simp
            have m1 : Mod (· = am n.path) Z Z1 := by rw [← hZ1]; exact ((Mod.refl _ Z).drew).trans (Mod.set1 _ (am n.path) 5 _)
            have m2 : Mod (· = am n.path) Z Z2 := by rw [← hZ2]; exact m1.trans (Mod.set1 _ (am n.path) 11 _)
            obtain ⟨HP, HMf⟩ := HTX.out.setN HRX.out (p := n.path) (f := wf4 a) (fun _ => rfl) (fun _ => rfl) HLk.out m2 hN3
            have hbZ := hb.mod (m2.mono fun k _ (e : k = am n.path) => (show k < w.heap.size by omega))
            have hLk2 : look (updN LY n.path (wf4 a)) n.path = some (wf4 a q) := look_upd (f := wf4 a) (fun _ => rfl) HLk.out
            have hR2 : (updN LY n.path (wf4 a)).Pairwise fun a b => a.path < b.path := upd_rise (f := wf4 a) (fun _ => rfl) HRX.out
            have hMZ := HMX.out.trans HMf
            have M1 := Lib.hid m1
            have M2 := Lib.hid m2
            clear hb hmm hmp hN hmode hND hN1 hN2 hN3 m1 m2 HTX HWB HMX HLk HRX HMf HMd
            have HTX := Lib.hid HP
            have HWB := Lib.hid hbZ
            have HMX := Lib.hid hMZ
            have HLk := Lib.hid hLk2
            have HRX := Lib.hid hR2
            clear HP hbZ hLk2 hR2 hMZ
            go_upto_region 20 with (fail)
            refine wp_region_held_drew (S := fun w' => Hid (Mod (· = am n.path) Z w')) (by kernel_rfl) (Lib.hid (Mod.refl (· = am n.path) Z).drew) (fun hHeld => ?_)
            refine hT 0 rfl (fun wH hSw => by have cH := keepX hSw.out (by omega) e4; clear hSw; go_simp; all_goals with_reducible rfl) ?_
            try simp only [gA, gB, gC, Act.put, sA, sB, sC]
            refine hT 1 rfl (fun wH hSw => by have cH := keepX hSw.out (by omega) e4; clear hSw; go_simp; all_goals with_reducible rfl) ?_
            try simp only [gA, gB, gC, Act.put, sA, sB, sC]
            refine hT 2 rfl (fun _ _ => by go_simp; all_goals with_reducible rfl) ?_
            try simp only [gA, gB, gC, Act.put, sA, sB, sC]
            refine hT 3 rfl (fun wH hSw => by have cH := keepX hSw.out (by omega) e5; clear hSw; go_simp; all_goals with_reducible rfl) ?_
            try simp only [gA, gB, gC, Act.put, sA, sB, sC]
            refine hT 4 rfl (fun _ _ => by go_simp; all_goals with_reducible rfl) ?_
            try simp only [gA, gB, gC, Act.put, sA, sB, sC]
            refine hT 5 rfl (fun wH hSw => by have cH := keepX hSw.out (by omega) e11; clear hSw; go_simp; all_goals with_reducible rfl) ?_
            try simp only [gA, gB, gC, Act.put, sA, sB, sC]
            refine hT 6 rfl (fun _ _ => by go_simp; all_goals with_reducible rfl) ?_
            try simp only [gA, gB, gC, Act.put, sA, sB, sC]
            refine hT 7 rfl (fun _ _ => by go_simp; all_goals with_reducible rfl) ?_
            try simp only [gA, gB, gC, Act.put, sA, sB, sC]
            refine hT 8 rfl (fun _ _ => by go_simp; all_goals with_reducible rfl) ?_
            try simp only [gA, gB, gC, Act.put, sA, sB, sC]
            refine hR1 9 rfl fun K hK => ?_
            go_simp
            refine hK.out _ _ (Lib.hid (M1.out)) ?_; clear hK K hHeld; intro hHeld
            try simp only [gA, gB, gC, Act.put, sA, sB, sC]
            refine hT 10 rfl (fun _ _ => by go_simp; all_goals with_reducible rfl) ?_
            try simp only [gA, gB, gC, Act.put, sA, sB, sC]
            refine hT 11 rfl (fun _ _ => by go_simp; all_goals with_reducible rfl) ?_
            try simp only [gA, gB, gC, Act.put, sA, sB, sC]
            refine hT 12 rfl (fun _ _ => by go_simp; all_goals with_reducible rfl) ?_
            try simp only [gA, gB, gC, Act.put, sA, sB, sC]
            refine hR1 13 rfl fun K hK => ?_
            go_simp
            refine hK.out _ _ (Lib.hid (M2.out)) ?_; clear hK K hHeld; intro hHeld
            try simp only [gA, gB, gC, Act.put, sA, sB, sC]
            refine wpAnyH_done (by kernel_rfl) ?_ _
            clear hHeld hZ1 hZ2 e4 e5 e11 c5 f5 c11 f11 M1 M2
            clear Z1
            have es : Z2.cell? ⟨w.heap.size + 1 + 1, 7, none⟩ = some (.int .u32 s.mt) := (cell_of HWB.out.c2 7).trans rfl
            have hU : ∀ U, Calls Tryz.prog 13 #[] U fun e w' => e = .returned (.agg #[.int .u16 65535, .int .u32 4294967295, .int .u8 255, .int .u32 4294967295, .int .u64 18446744073709551615, .int .u32 4294967295, .int .u32 4294967295, .int .u32 4294967295, .int .u64 18446744073709551615, .string ByteArray.empty, .string ByteArray.empty, .string ByteArray.empty, .string ByteArray.empty]) ∧ Mod (fun _ => False) U w' := fun U => munt_any U
            have hfd : ∀ U : World, (Instr.field 37 (.agg #[.int .u16 65535, .int .u32 4294967295, .int .u8 255, .int .u32 4294967295, .int .u64 18446744073709551615, .int .u32 4294967295, .int .u32 4294967295, .int .u32 4294967295, .int .u64 18446744073709551615, .string ByteArray.empty, .string ByteArray.empty, .string ByteArray.empty, .string ByteArray.empty]) 5).run Tryz.prog U = .ok (.int .u32 4294967295) U := fun _ => by kernel_rfl
            go_upto_region 21 with (fail)
            have tt : ((s.mt : Int) != 4294967295) = bt := by rw [HBT.out, Bool.eq_iff_iff]; simp; omega
            have tt2 : ((s.mt : Int) == 4294967295) = !bt := by rw [HBT.out, Bool.eq_iff_iff]; simp; omega
            refine wp_region_held_drew (S := fun w' => Hid (Mod (fun _ => False) Z2 w')) (by kernel_rfl) (Lib.hid (Mod.refl (fun _ => False) Z2).drew) (fun hHeld => ?_)
            refine hT 0 rfl (fun _ _ => by go_simp; all_goals with_reducible rfl) ?_
            try simp only [gA, gB, gC, Act.put, sA, sB, sC]
            refine hT 1 rfl (fun wH hSw => by have cH := keepN hSw.out es; clear hSw; go_simp; all_goals with_reducible rfl) ?_
            try simp only [gA, gB, gC, Act.put, sA, sB, sC]
            refine hR1 2 rfl fun K hK => ?_
            go_simp
            refine (hU _).mono ?_
            rintro e w4 ⟨rfl, m4⟩
            refine hK.out _ _ (Lib.hid (hHeld.out.trans m4)) ?_; clear hK K hHeld; intro hHeld
            try simp only [gA, gB, gC, Act.put, sA, sB, sC]
            refine hT 3 rfl (fun _ _ => by go_simp; all_goals with_reducible rfl) ?_
            try simp only [gA, gB, gC, Act.put, sA, sB, sC]
            refine hT 4 rfl (fun _ _ => by go_simp; all_goals with_reducible rfl) ?_
            try simp only [gA, gB, gC, Act.put, sA, sB, sC]
            refine wpAnyH_done (by kernel_rfl) ?_ _
            have M4 : Hid (Mod (fun _ => False) Z2 w4) := hHeld.out
            clear hHeld m4 hU tt tt2 es hfd
            have HTX' := Lib.hid (HTX.out.mod0 M4.out)
            have HWB' := Lib.hid (HWB.out.mod (M4.out.mono fun _ _ x => x.elim))
            have HMX' : Hid (Mod (Foot ρ) w w4) := HMX.out.trans (M4.out.mono fun _ _ x => x.elim)
            clear HTX HWB HMX M4
            cases bt with
            | true =>
              have hmm := (look_some HLk.out).1
              have hmp : (wf4 a q).path = n.path := (look_some HLk.out).2
              have hN : w4.heap[am n.path]? = some (pnO (wf4 a q) (vk n.path)) := by have := HTX'.out.node _ hmm; rw [hmp] at this; exact this
              have e4 : w4.cell? ⟨w.heap.size + 4, 0, none⟩ = some (.pointer (some ⟨am n.path, 0, none⟩)) := HWB'.out.c4.cell
              have e7 : w4.cell? ⟨w.heap.size + 1 + 1, 7, none⟩ = some (.int .u32 s.mt) := (cell_of HWB'.out.c2 7).trans rfl
              have c7 : w4.cell? ⟨am n.path, 7, none⟩ = some (.int .u32 (wf4 a q).mtime) := (cell_of hN 7).trans rfl
              have f7 := free_of hN 7
              obtain ⟨w5, hw5⟩ : ∃ w5, w4.setCell ⟨am n.path, 7, none⟩ (.int .u32 s.mt) = w5 := ⟨_, rfl⟩
              have hN1 : w5.heap[am n.path]? = some (pnO (wf5 s (wf4 a q)) (vk n.path)) := by rw [← hw5]; exact heap_set hN 7 _
              have m1 : Mod (· = am n.path) w4 w5 := by rw [← hw5]; exact Mod.set1 w4 (am n.path) 7 _
              obtain ⟨HP, HMf⟩ := HTX'.out.setN HRX.out (p := n.path) (f := wf5 s) (fun _ => rfl) (fun _ => rfl) HLk.out m1 hN1
              have HP := Lib.hid HP
              have HMf : Hid (Mod (Foot ρ) w w5) := HMX'.out.trans HMf
              clear hmm hmp hN hN1 m1 HTX' HWB' HMX' HLk HRX
              go_wp2
              go_ret
              exact ⟨by rw [HV.out]; rfl, by rw [HV.out, ← HLaw.out]; exact HP.out, HMf.out⟩
            | false =>
              go_wp2
              go_ret
              exact ⟨by rw [HV.out]; rfl, by rw [HV.out, ← HLaw.out]; exact HTX'.out, HMX'.out⟩
      · have t3 : (wstatE T n s who != 0) = true := by simp [he]
        have HV : Hid (wstatT T n.path s who now = (T, wstatE T n s who)) := by show _ = _; unfold wstatT; rw [HL.out]; exact if_pos he
        clear he
        go_wp2
        go_ret
        exact ⟨by rw [HV.out]; rfl, by rw [HV.out]; exact HTV.out, MV0.out.mono fun _ _ x => x.elim⟩
end Go.Proofs.YtkcnbbjmkkaolaaGreatDoor
