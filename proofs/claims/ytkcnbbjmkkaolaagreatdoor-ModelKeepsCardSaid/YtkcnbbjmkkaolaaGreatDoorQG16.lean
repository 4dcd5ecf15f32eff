/- A step in both trees: Walk, Open, Create.
   A step in both trees: Read, Write, Remove, Wstat.
   A step in both trees: Stat and Parent, List.
   The law of the trees: a step in both trees, whatever it is. -/
import Derived.Test.YtkcnbbjmkkaolaaGreatDoorQG15
import Derived.Test.YtkcnbbjmkkaolaaGreatDoorQG00
set_option linter.unusedVariables false
set_option linter.unusedSimpArgs false
namespace Go.Proofs.YtkcnbbjmkkaolaaGreatDoor
open Go.RowKit

section
variable {w : World} {ρ : Nat → Role} {G : Nat → Prop} {b b' cnt : Nat} {T U : Tr}
set_option maxHeartbeats 8000000 in
set_option maxRecDepth 100000 in
theorem st_open (h : TwoT w ρ G b b' cnt T U) (s : SpM) (hd : s.dof = 2) (hs : s.Ok) (hl : s.Lt) {W0 : World} (hBs : Bse W0 w ρ G) :
    Calls Tryz.prog 16 #[.pointer (some ⟨b, 0, none⟩), .pointer (some ⟨b', 0, none⟩), .agg s.cells.toArray] w (SPost b b' cnt T U ρ G s w) := by
  obtain ⟨W, hW⟩ : ∃ W, w.alloc (.cells s.cells.toArray 44) = W := ⟨_, rfl⟩
  have hS : W.heap[w.heap.size]? = some (.cells s.cells.toArray 44 (0, 0)) := by subst hW; exact new_at _ _
  have m0 : Mod (fun _ => False) w W := by subst hW; exact (Mod.refl _ w).alloc _
  obtain ⟨h0, k0⟩ := h.do0 m0
  have hBs0 := hBs.step k0
  have hT0 := hBs0.tabs
  have hBn : w.heap.size < W.heap.size ∧ ¬ Foot ρ w.heap.size ∧ ¬ G w.heap.size := ⟨lt_of hS, (h.out (Nat.le_refl _)).1, (h.out (Nat.le_refl _)).2⟩
  have c0 : W.cell? ⟨w.heap.size, 0, none⟩ = some (.int .i64 (2)) := by rw [← hd]; exact (cell_of hS 0).trans rfl
  have c1 : (W).cell? ⟨w.heap.size, 1, none⟩ = some (.int .u64 s.path) := (cell_of hS 1).trans rfl
  have c2 : (W).cell? ⟨w.heap.size, 2, none⟩ = some (.string s.name) := (cell_of hS 2).trans rfl
  have c3 : (W).cell? ⟨w.heap.size, 3, none⟩ = some (.string s.who) := (cell_of hS 3).trans rfl
  have c4 : (W).cell? ⟨w.heap.size, 4, none⟩ = some (.int .u32 s.perm) := (cell_of hS 4).trans rfl
  have c5 : (W).cell? ⟨w.heap.size, 5, none⟩ = some (.int .u8 s.mode) := (cell_of hS 5).trans rfl
  have c6 : (W).cell? ⟨w.heap.size, 6, none⟩ = some (.int .u32 s.now) := (cell_of hS 6).trans rfl
  have c7 : (W).cell? ⟨w.heap.size, 7, none⟩ = some (.int .u64 s.off) := (cell_of hS 7).trans rfl
  have c8 : (W).cell? ⟨w.heap.size, 8, none⟩ = some (.int .u32 s.count) := (cell_of hS 8).trans rfl
  have c9 : (W).cell? ⟨w.heap.size, 9, none⟩ = some (.string s.data) := (cell_of hS 9).trans rfl
  obtain ⟨⟨T1, qP, eP⟩, hX⟩ : ∃ x : Tr × Qi × Int, (openT T s.path s.mode s.who s.now) = x := ⟨_, rfl⟩
  obtain ⟨⟨U1, qU, eU⟩, hY⟩ : ∃ x : Tr × Qi × Int, (openT U s.path s.mode s.who s.now) = x := ⟨_, rfl⟩
  have HST : Hid (stepT T s = (T1, eP)) := by
    show _ = _
    have e1 : T1 = (openT T s.path s.mode s.who s.now).1 := by rw [hX]
    have e2 : eP = (openT T s.path s.mode s.who s.now).2.2 := by rw [hX]
    rw [e1, e2]; unfold stepT; rw [hd]; rfl
  have HSU : Hid (stepT U s = (U1, eU)) := by
    show _ = _
    have e1 : U1 = (openT U s.path s.mode s.who s.now).1 := by rw [hY]
    have e2 : eU = (openT U s.path s.mode s.who s.now).2.2 := by rw [hY]
    rw [e1, e2]; unfold stepT; rw [hd]; rfl
  have HEQ : Hid (T = U → qP = qU ∧ eP = eU) := by
    intro e
    subst e
    have h3 := hX.symm.trans hY
    injection h3 with _ h3
    injection h3 with h4 h5
    exact ⟨h4, h5⟩
  have hP := (tp_open h0 s.path s.mode s.who s.now hs.path hs.mode hl.who hs.now)
  change Calls _ _ _ _ (RetP _ _ _ _ _ _ _ (.tuple #[.agg (qiC (openT T s.path s.mode s.who s.now).2.1).toArray, .int .i64 (openT T s.path s.mode s.who s.now).2.2]) (openT T s.path s.mode s.who s.now).1) at hP
  rw [hX] at hP
  dsimp only at hP
  have HS := Lib.hid hS
  have HBn := Lib.hid hBn
  have K0 := Lib.hid k0
  have HBs := Lib.hid hBs0
  have HX := Lib.hid hX
  have HY := Lib.hid hY
  clear hX hY h0 k0 m0 hS hBn h hBs hBs0 hT0 hd
  go_enter Tryz.func16, Tryz.ntmps16
  go_wp2_with fail
  refine hP.mono ?_
  rintro e w1 ⟨rfl, ρ1, h1, k1⟩
  clear hP hW c0 c1 c2 c3 c4 c5 c6 c7 c8 c9
  have H1 := Lib.hid h1
  have K1 := Lib.hid k1
  clear h1 k1
  go_upto_region 14 with (refine wpl_store_row rfl 35 (.tmp 20) (.tmp 139) rfl rfl w1.heap.size (qiC qP) rfl rfl 35 _ (new_at _ _) rfl (qi_one _) (by kernel_rfl) ?_; intro V1 hq1 mq1)
  have m1 : Mod (fun _ => False) w1 V1 := ((Mod.refl (fun _ => False) w1).alloc _).trans' mq1 fun k hk e => by omega
  obtain ⟨h2, k2⟩ := H1.out.do0 m1
  have k2 := K1.out.trans k2
  obtain ⟨e2, f2, g2⟩ := k2.keep HBn.out.1 HBn.out.2.1 HBn.out.2.2
  have hS1 := e2.trans HS.out
  have c1 : (V1).cell? ⟨w.heap.size, 1, none⟩ = some (.int .u64 s.path) := (cell_of hS1 1).trans rfl
  have c2 : (V1).cell? ⟨w.heap.size, 2, none⟩ = some (.string s.name) := (cell_of hS1 2).trans rfl
  have c3 : (V1).cell? ⟨w.heap.size, 3, none⟩ = some (.string s.who) := (cell_of hS1 3).trans rfl
  have c4 : (V1).cell? ⟨w.heap.size, 4, none⟩ = some (.int .u32 s.perm) := (cell_of hS1 4).trans rfl
  have c5 : (V1).cell? ⟨w.heap.size, 5, none⟩ = some (.int .u8 s.mode) := (cell_of hS1 5).trans rfl
  have c6 : (V1).cell? ⟨w.heap.size, 6, none⟩ = some (.int .u32 s.now) := (cell_of hS1 6).trans rfl
  have c7 : (V1).cell? ⟨w.heap.size, 7, none⟩ = some (.int .u64 s.off) := (cell_of hS1 7).trans rfl
  have c8 : (V1).cell? ⟨w.heap.size, 8, none⟩ = some (.int .u32 s.count) := (cell_of hS1 8).trans rfl
  have c9 : (V1).cell? ⟨w.heap.size, 9, none⟩ = some (.string s.data) := (cell_of hS1 9).trans rfl
  have hT1 : Tabs V1 := (HBs.out.step k2).tabs
  have hR := (tr_open h2 s.path s.mode s.who s.now hs.mode hl.who hs.now)
  change Calls _ _ _ _ (RetR _ _ _ _ _ _ _ (.tuple #[.agg (qiC (openT U s.path s.mode s.who s.now).2.1).toArray, .int .i64 (openT U s.path s.mode s.who s.now).2.2]) (openT U s.path s.mode s.who s.now).1) at hR
  rw [HY.out] at hR
  dsimp only at hR
  have hn1 := H1.out.out (Nat.le_refl w1.heap.size)
  have HQ1 : Hid (V1.heap[w1.heap.size]? = some (qiO qP)) := hq1
  have HN1 := Lib.hid hn1
  have H2 := Lib.hid h2
  have K2 := Lib.hid k2
  clear h2 k2 m1 mq1 hq1 hn1 e2 f2 g2 hS1 K1 H1
  generalize w1.heap.size = a1 at *
  go_wp2_with fail
  refine hR.mono ?_
  rintro e w2 ⟨rfl, G1, h3, k3⟩
  clear hR hT1 c1 c2 c3 c4 c5 c6 c7 c8 c9
  have H3 := Lib.hid h3
  have K3 := Lib.hid k3
  have HQ2 : Hid (w2.heap[a1]? = some (qiO qP)) := ((k3.keep (lt_of HQ1.out) HN1.out.1 HN1.out.2).1).trans HQ1.out
  clear h3 k3 HQ1 HN1
  go_upto_region 15 with (refine wpl_store_row rfl 35 (.tmp 22) (.tmp 152) rfl rfl w2.heap.size (qiC qU) rfl rfl 35 _ (new_at _ _) rfl (qi_one _) (by kernel_rfl) ?_; intro V2 hq2 mq2)
  have m2 : Mod (fun _ => False) w2 V2 := ((Mod.refl (fun _ => False) w2).alloc _).trans' mq2 fun k hk e => by omega
  have HQ3 : Hid (V2.heap[a1]? = some (qiO qP)) := (m2.block _ (lt_of HQ2.out) (fun x => x)).trans HQ2.out
  have HQ4 : Hid (V2.heap[w2.heap.size]? = some (qiO qU)) := hq2
  obtain ⟨h4, k4⟩ := H3.out.do0 m2
  have H4 := Lib.hid h4
  have K4 : Hid (TwM w V2 ρ ρ1 G G1) := K0.out.trans (K2.out.trans (K3.out.trans k4))
  have HF : Hid (∀ v X, (T = U → v = true) → Mod (fun _ => False) V2 X → SPost b b' cnt T U ρ G s w (.returned (.tuple #[.int .i64 eP, .bool v])) X) := fun v X hv hm => by
    obtain ⟨h5, k5⟩ := H4.out.do0 hm
    refine ⟨v, ρ1, G1, by rw [HST.out], hv, ?_, K4.out.trans k5⟩
    rw [HST.out, HSU.out]
    exact h5
  generalize w2.heap.size = a2 at *
  obtain ⟨be, hbe⟩ : ∃ x, decide (eP = eU) = x := ⟨_, rfl⟩
  have t1 : (eP == eU) = be := by rw [← hbe, Bool.eq_iff_iff]; simp
  obtain ⟨bq, hbq⟩ : ∃ x, eqQ qP qU = x := ⟨_, rfl⟩
  have hne : ∀ X, (binOp .eql 35 (.agg (qiC qP).toArray) (.agg (qiC qU).toArray)).run Tryz.prog X = .ok (.bool bq) X := fun X => by rw [← hbq]; exact eqlQ_any qP qU X
  have HV : Hid (T = U → (be && bq) = true) := fun e => by
    obtain ⟨e1, e2⟩ := HEQ.out e
    rw [← hbe, ← hbq, e1, e2, eqQ_self]; simp
  have hr1 : ∀ X, Mod (fun _ => False) V2 X → X.rangeAt a1 0 (qiC qP) := fun X hX => qi_rng ((hX.block _ (lt_of HQ3.out) (fun x => x)).trans HQ3.out)
  have hr2 : ∀ X, Mod (fun _ => False) V2 X → X.rangeAt a2 0 (qiC qU) := fun X hX => qi_rng ((hX.block _ (lt_of HQ4.out) (fun x => x)).trans HQ4.out)
  have hl1 := qi_len qP
  have hl2 := qi_len qU
  clear h4 k4 m2 mq2 hq2 hbe hbq HQ2 HX HY HEQ
  cases be with
  | false =>
    refine wp_region_held_drew (S := fun w' => Hid (Mod (fun _ => False) V2 w')) (by kernel_rfl) (Lib.hid (Mod.refl (fun _ => False) V2).drew) (fun hHeld => ?_)
    refine hT 0 rfl (fun _ _ => by go_simp; all_goals with_reducible rfl) ?_
    try simp only [gA, gB, gC, Act.put, sA, sB, sC]
    refine hT 1 rfl (fun _ _ => by go_simp; all_goals with_reducible rfl) ?_
    try simp only [gA, gB, gC, Act.put, sA, sB, sC]
    refine hT 2 rfl (fun _ _ => by go_simp; all_goals with_reducible rfl) ?_
    try simp only [gA, gB, gC, Act.put, sA, sB, sC]
    refine hT 3 rfl (fun _ _ => by go_simp; all_goals with_reducible rfl) ?_
    try simp only [gA, gB, gC, Act.put, sA, sB, sC]
    refine hT 4 rfl (fun _ _ => by go_simp; all_goals with_reducible rfl) ?_
    try simp only [gA, gB, gC, Act.put, sA, sB, sC]
    refine hSk 5 rfl ?_
    try simp only [gA, gB, gC, Act.put, sA, sB, sC]
    refine hSk 6 rfl ?_
    try simp only [gA, gB, gC, Act.put, sA, sB, sC]
    refine hSk 7 rfl ?_
    try simp only [gA, gB, gC, Act.put, sA, sB, sC]
    refine hT 8 rfl (fun _ _ => by go_simp; all_goals with_reducible rfl) ?_
    try simp only [gA, gB, gC, Act.put, sA, sB, sC]
    refine hT 9 rfl (fun _ _ => by go_simp; all_goals with_reducible rfl) ?_
    try simp only [gA, gB, gC, Act.put, sA, sB, sC]
    refine hT 10 rfl (fun _ _ => by go_simp; all_goals with_reducible rfl) ?_
    try simp only [gA, gB, gC, Act.put, sA, sB, sC]
    refine wpAnyH_done (by kernel_rfl) ?_ _
    go_wp2
    go_ret2
    exact HF.out _ _ HV.out hHeld.out
  | true =>
    refine wp_region_held_drew (S := fun w' => Hid (Mod (fun _ => False) V2 w')) (by kernel_rfl) (Lib.hid (Mod.refl (fun _ => False) V2).drew) (fun hHeld => ?_)
    refine hT 0 rfl (fun _ _ => by go_simp; all_goals with_reducible rfl) ?_
    try simp only [gA, gB, gC, Act.put, sA, sB, sC]
    refine hT 1 rfl (fun _ _ => by go_simp; all_goals with_reducible rfl) ?_
    try simp only [gA, gB, gC, Act.put, sA, sB, sC]
    refine hT 2 rfl (fun _ _ => by go_simp; all_goals with_reducible rfl) ?_
    try simp only [gA, gB, gC, Act.put, sA, sB, sC]
    refine hT 3 rfl (fun _ _ => by go_simp; all_goals with_reducible rfl) ?_
    try simp only [gA, gB, gC, Act.put, sA, sB, sC]
    refine hT 4 rfl (fun _ _ => by go_simp; all_goals with_reducible rfl) ?_
    try simp only [gA, gB, gC, Act.put, sA, sB, sC]
    refine hTy 5 rfl (by kernel_rfl) (fun _ _ _ h => h) (by assumption) (yieldsIf_load_mid (by rfl) 35 (.tmp 20) rfl a1 0 rfl (qiC qP) _ (fun wH hSw => hr1 wH hSw.out) Tryz.underlying35 rfl (by kernel_rfl)) ?_
    try simp only [gA, gB, gC, Act.put, sA, sB, sC]
    refine hTy 6 rfl (by kernel_rfl) (fun _ _ _ h => h) (by assumption) (yieldsIf_load_mid (by rfl) 35 (.tmp 22) rfl a2 0 rfl (qiC qU) _ (fun wH hSw => hr2 wH hSw.out) Tryz.underlying35 rfl (by kernel_rfl)) ?_
    try simp only [gA, gB, gC, Act.put, sA, sB, sC]
    refine hT 7 rfl (fun _ _ => by go_simp; all_goals with_reducible rfl) ?_
    try simp only [gA, gB, gC, Act.put, sA, sB, sC]
    refine hT 8 rfl (fun _ _ => by go_simp; all_goals with_reducible rfl) ?_
    try simp only [gA, gB, gC, Act.put, sA, sB, sC]
    refine hT 9 rfl (fun _ _ => by go_simp; all_goals with_reducible rfl) ?_
    try simp only [gA, gB, gC, Act.put, sA, sB, sC]
    refine hT 10 rfl (fun _ _ => by go_simp; all_goals with_reducible rfl) ?_
    try simp only [gA, gB, gC, Act.put, sA, sB, sC]
    refine wpAnyH_done (by kernel_rfl) ?_ _
    go_wp2
    go_ret2
    exact HF.out _ _ HV.out hHeld.out
set_option maxHeartbeats 8000000 in
set_option maxRecDepth 100000 in
theorem st_walk (h : TwoT w ρ G b b' cnt T U) (s : SpM) (hd : s.dof = 1) (hs : s.Ok) (hl : s.Lt) {W0 : World} (hBs : Bse W0 w ρ G) :
    Calls Tryz.prog 16 #[.pointer (some ⟨b, 0, none⟩), .pointer (some ⟨b', 0, none⟩), .agg s.cells.toArray] w (SPost b b' cnt T U ρ G s w) := by
  obtain ⟨W, hW⟩ : ∃ W, w.alloc (.cells s.cells.toArray 44) = W := ⟨_, rfl⟩
  have hS : W.heap[w.heap.size]? = some (.cells s.cells.toArray 44 (0, 0)) := by subst hW; exact new_at _ _
  have m0 : Mod (fun _ => False) w W := by subst hW; exact (Mod.refl _ w).alloc _
  obtain ⟨h0, k0⟩ := h.do0 m0
  have hBs0 := hBs.step k0
  have hT0 := hBs0.tabs
  have hBn : w.heap.size < W.heap.size ∧ ¬ Foot ρ w.heap.size ∧ ¬ G w.heap.size := ⟨lt_of hS, (h.out (Nat.le_refl _)).1, (h.out (Nat.le_refl _)).2⟩
  have c0 : W.cell? ⟨w.heap.size, 0, none⟩ = some (.int .i64 (1)) := by rw [← hd]; exact (cell_of hS 0).trans rfl
  have c1 : (W).cell? ⟨w.heap.size, 1, none⟩ = some (.int .u64 s.path) := (cell_of hS 1).trans rfl
  have c2 : (W).cell? ⟨w.heap.size, 2, none⟩ = some (.string s.name) := (cell_of hS 2).trans rfl
  have c3 : (W).cell? ⟨w.heap.size, 3, none⟩ = some (.string s.who) := (cell_of hS 3).trans rfl
  have c4 : (W).cell? ⟨w.heap.size, 4, none⟩ = some (.int .u32 s.perm) := (cell_of hS 4).trans rfl
  have c5 : (W).cell? ⟨w.heap.size, 5, none⟩ = some (.int .u8 s.mode) := (cell_of hS 5).trans rfl
  have c6 : (W).cell? ⟨w.heap.size, 6, none⟩ = some (.int .u32 s.now) := (cell_of hS 6).trans rfl
  have c7 : (W).cell? ⟨w.heap.size, 7, none⟩ = some (.int .u64 s.off) := (cell_of hS 7).trans rfl
  have c8 : (W).cell? ⟨w.heap.size, 8, none⟩ = some (.int .u32 s.count) := (cell_of hS 8).trans rfl
  have c9 : (W).cell? ⟨w.heap.size, 9, none⟩ = some (.string s.data) := (cell_of hS 9).trans rfl
  obtain ⟨⟨T1, qP, eP⟩, hX⟩ : ∃ x : Tr × Qi × Int, (((T, walkT T s.path s.name s.who) : Tr × Qi × Int)) = x := ⟨_, rfl⟩
  obtain ⟨⟨U1, qU, eU⟩, hY⟩ : ∃ x : Tr × Qi × Int, (((U, walkT U s.path s.name s.who) : Tr × Qi × Int)) = x := ⟨_, rfl⟩
  have HST : Hid (stepT T s = (T1, eP)) := by
    show _ = _
    have e1 : T1 = (((T, walkT T s.path s.name s.who) : Tr × Qi × Int)).1 := by rw [hX]
    have e2 : eP = (((T, walkT T s.path s.name s.who) : Tr × Qi × Int)).2.2 := by rw [hX]
    rw [e1, e2]; unfold stepT; rw [hd]; rfl
  have HSU : Hid (stepT U s = (U1, eU)) := by
    show _ = _
    have e1 : U1 = (((U, walkT U s.path s.name s.who) : Tr × Qi × Int)).1 := by rw [hY]
    have e2 : eU = (((U, walkT U s.path s.name s.who) : Tr × Qi × Int)).2.2 := by rw [hY]
    rw [e1, e2]; unfold stepT; rw [hd]; rfl
  have HEQ : Hid (T = U → qP = qU ∧ eP = eU) := by
    intro e
    subst e
    have h3 := hX.symm.trans hY
    injection h3 with _ h3
    injection h3 with h4 h5
    exact ⟨h4, h5⟩
  have hP := (tp_walk h0 s.path s.name s.who hs.path hl.name hT0)
  change Calls _ _ _ _ (RetP _ _ _ _ _ _ _ (.tuple #[.agg (qiC (((T, walkT T s.path s.name s.who) : Tr × Qi × Int)).2.1).toArray, .int .i64 (((T, walkT T s.path s.name s.who) : Tr × Qi × Int)).2.2]) (((T, walkT T s.path s.name s.who) : Tr × Qi × Int)).1) at hP
  rw [hX] at hP
  dsimp only at hP
  have HS := Lib.hid hS
  have HBn := Lib.hid hBn
  have K0 := Lib.hid k0
  have HBs := Lib.hid hBs0
  have HX := Lib.hid hX
  have HY := Lib.hid hY
  clear hX hY h0 k0 m0 hS hBn h hBs hBs0 hT0 hd
  go_enter Tryz.func16, Tryz.ntmps16
  go_wp2_with fail
  refine hP.mono ?_
  rintro e w1 ⟨rfl, ρ1, h1, k1⟩
  clear hP hW c0 c1 c2 c3 c4 c5 c6 c7 c8 c9
  have H1 := Lib.hid h1
  have K1 := Lib.hid k1
  clear h1 k1
  go_upto_region 10 with (refine wpl_store_row rfl 35 (.tmp 16) (.tmp 104) rfl rfl w1.heap.size (qiC qP) rfl rfl 35 _ (new_at _ _) rfl (qi_one _) (by kernel_rfl) ?_; intro V1 hq1 mq1)
  have m1 : Mod (fun _ => False) w1 V1 := ((Mod.refl (fun _ => False) w1).alloc _).trans' mq1 fun k hk e => by omega
  obtain ⟨h2, k2⟩ := H1.out.do0 m1
  have k2 := K1.out.trans k2
  obtain ⟨e2, f2, g2⟩ := k2.keep HBn.out.1 HBn.out.2.1 HBn.out.2.2
  have hS1 := e2.trans HS.out
  have c1 : (V1).cell? ⟨w.heap.size, 1, none⟩ = some (.int .u64 s.path) := (cell_of hS1 1).trans rfl
  have c2 : (V1).cell? ⟨w.heap.size, 2, none⟩ = some (.string s.name) := (cell_of hS1 2).trans rfl
  have c3 : (V1).cell? ⟨w.heap.size, 3, none⟩ = some (.string s.who) := (cell_of hS1 3).trans rfl
  have c4 : (V1).cell? ⟨w.heap.size, 4, none⟩ = some (.int .u32 s.perm) := (cell_of hS1 4).trans rfl
  have c5 : (V1).cell? ⟨w.heap.size, 5, none⟩ = some (.int .u8 s.mode) := (cell_of hS1 5).trans rfl
  have c6 : (V1).cell? ⟨w.heap.size, 6, none⟩ = some (.int .u32 s.now) := (cell_of hS1 6).trans rfl
  have c7 : (V1).cell? ⟨w.heap.size, 7, none⟩ = some (.int .u64 s.off) := (cell_of hS1 7).trans rfl
  have c8 : (V1).cell? ⟨w.heap.size, 8, none⟩ = some (.int .u32 s.count) := (cell_of hS1 8).trans rfl
  have c9 : (V1).cell? ⟨w.heap.size, 9, none⟩ = some (.string s.data) := (cell_of hS1 9).trans rfl
  have hT1 : Tabs V1 := (HBs.out.step k2).tabs
  have hR := (tr_walk h2 s.path s.name s.who hl.name hT1)
  change Calls _ _ _ _ (RetR _ _ _ _ _ _ _ (.tuple #[.agg (qiC (((U, walkT U s.path s.name s.who) : Tr × Qi × Int)).2.1).toArray, .int .i64 (((U, walkT U s.path s.name s.who) : Tr × Qi × Int)).2.2]) (((U, walkT U s.path s.name s.who) : Tr × Qi × Int)).1) at hR
  rw [HY.out] at hR
  dsimp only at hR
  have hn1 := H1.out.out (Nat.le_refl w1.heap.size)
  have HQ1 : Hid (V1.heap[w1.heap.size]? = some (qiO qP)) := hq1
  have HN1 := Lib.hid hn1
  have H2 := Lib.hid h2
  have K2 := Lib.hid k2
  clear h2 k2 m1 mq1 hq1 hn1 e2 f2 g2 hS1 K1 H1
  generalize w1.heap.size = a1 at *
  go_wp2_with fail
  refine hR.mono ?_
  rintro e w2 ⟨rfl, G1, h3, k3⟩
  clear hR hT1 c1 c2 c3 c4 c5 c6 c7 c8 c9
  have H3 := Lib.hid h3
  have K3 := Lib.hid k3
  have HQ2 : Hid (w2.heap[a1]? = some (qiO qP)) := ((k3.keep (lt_of HQ1.out) HN1.out.1 HN1.out.2).1).trans HQ1.out
  clear h3 k3 HQ1 HN1
  go_upto_region 11 with (refine wpl_store_row rfl 35 (.tmp 18) (.tmp 115) rfl rfl w2.heap.size (qiC qU) rfl rfl 35 _ (new_at _ _) rfl (qi_one _) (by kernel_rfl) ?_; intro V2 hq2 mq2)
  have m2 : Mod (fun _ => False) w2 V2 := ((Mod.refl (fun _ => False) w2).alloc _).trans' mq2 fun k hk e => by omega
  have HQ3 : Hid (V2.heap[a1]? = some (qiO qP)) := (m2.block _ (lt_of HQ2.out) (fun x => x)).trans HQ2.out
  have HQ4 : Hid (V2.heap[w2.heap.size]? = some (qiO qU)) := hq2
  obtain ⟨h4, k4⟩ := H3.out.do0 m2
  have H4 := Lib.hid h4
  have K4 : Hid (TwM w V2 ρ ρ1 G G1) := K0.out.trans (K2.out.trans (K3.out.trans k4))
  have HF : Hid (∀ v X, (T = U → v = true) → Mod (fun _ => False) V2 X → SPost b b' cnt T U ρ G s w (.returned (.tuple #[.int .i64 eP, .bool v])) X) := fun v X hv hm => by
    obtain ⟨h5, k5⟩ := H4.out.do0 hm
    refine ⟨v, ρ1, G1, by rw [HST.out], hv, ?_, K4.out.trans k5⟩
    rw [HST.out, HSU.out]
    exact h5
  generalize w2.heap.size = a2 at *
  obtain ⟨be, hbe⟩ : ∃ x, decide (eP = eU) = x := ⟨_, rfl⟩
  have t1 : (eP == eU) = be := by rw [← hbe, Bool.eq_iff_iff]; simp
  obtain ⟨bq, hbq⟩ : ∃ x, eqQ qP qU = x := ⟨_, rfl⟩
  have hne : ∀ X, (binOp .eql 35 (.agg (qiC qP).toArray) (.agg (qiC qU).toArray)).run Tryz.prog X = .ok (.bool bq) X := fun X => by rw [← hbq]; exact eqlQ_any qP qU X
  have HV : Hid (T = U → (be && bq) = true) := fun e => by
    obtain ⟨e1, e2⟩ := HEQ.out e
    rw [← hbe, ← hbq, e1, e2, eqQ_self]; simp
  have hr1 : ∀ X, Mod (fun _ => False) V2 X → X.rangeAt a1 0 (qiC qP) := fun X hX => qi_rng ((hX.block _ (lt_of HQ3.out) (fun x => x)).trans HQ3.out)
  have hr2 : ∀ X, Mod (fun _ => False) V2 X → X.rangeAt a2 0 (qiC qU) := fun X hX => qi_rng ((hX.block _ (lt_of HQ4.out) (fun x => x)).trans HQ4.out)
  have hl1 := qi_len qP
  have hl2 := qi_len qU
  clear h4 k4 m2 mq2 hq2 hbe hbq HQ2 HX HY HEQ
  cases be with
  | false =>
    refine wp_region_held_drew (S := fun w' => Hid (Mod (fun _ => False) V2 w')) (by kernel_rfl) (Lib.hid (Mod.refl (fun _ => False) V2).drew) (fun hHeld => ?_)
    refine hT 0 rfl (fun _ _ => by go_simp; all_goals with_reducible rfl) ?_
    try simp only [gA, gB, gC, Act.put, sA, sB, sC]
    refine hT 1 rfl (fun _ _ => by go_simp; all_goals with_reducible rfl) ?_
    try simp only [gA, gB, gC, Act.put, sA, sB, sC]
    refine hT 2 rfl (fun _ _ => by go_simp; all_goals with_reducible rfl) ?_
    try simp only [gA, gB, gC, Act.put, sA, sB, sC]
    refine hT 3 rfl (fun _ _ => by go_simp; all_goals with_reducible rfl) ?_
    try simp only [gA, gB, gC, Act.put, sA, sB, sC]
    refine hT 4 rfl (fun _ _ => by go_simp; all_goals with_reducible rfl) ?_
    try simp only [gA, gB, gC, Act.put, sA, sB, sC]
    refine hSk 5 rfl ?_
    try simp only [gA, gB, gC, Act.put, sA, sB, sC]
    refine hSk 6 rfl ?_
    try simp only [gA, gB, gC, Act.put, sA, sB, sC]
    refine hSk 7 rfl ?_
    try simp only [gA, gB, gC, Act.put, sA, sB, sC]
    refine hT 8 rfl (fun _ _ => by go_simp; all_goals with_reducible rfl) ?_
    try simp only [gA, gB, gC, Act.put, sA, sB, sC]
    refine hT 9 rfl (fun _ _ => by go_simp; all_goals with_reducible rfl) ?_
    try simp only [gA, gB, gC, Act.put, sA, sB, sC]
    refine hT 10 rfl (fun _ _ => by go_simp; all_goals with_reducible rfl) ?_
    try simp only [gA, gB, gC, Act.put, sA, sB, sC]
    refine wpAnyH_done (by kernel_rfl) ?_ _
    go_wp2
    go_ret2
    exact HF.out _ _ HV.out hHeld.out
  | true =>
    refine wp_region_held_drew (S := fun w' => Hid (Mod (fun _ => False) V2 w')) (by kernel_rfl) (Lib.hid (Mod.refl (fun _ => False) V2).drew) (fun hHeld => ?_)
    refine hT 0 rfl (fun _ _ => by go_simp; all_goals with_reducible rfl) ?_
    try simp only [gA, gB, gC, Act.put, sA, sB, sC]
    refine hT 1 rfl (fun _ _ => by go_simp; all_goals with_reducible rfl) ?_
    try simp only [gA, gB, gC, Act.put, sA, sB, sC]
    refine hT 2 rfl (fun _ _ => by go_simp; all_goals with_reducible rfl) ?_
    try simp only [gA, gB, gC, Act.put, sA, sB, sC]
    refine hT 3 rfl (fun _ _ => by go_simp; all_goals with_reducible rfl) ?_
    try simp only [gA, gB, gC, Act.put, sA, sB, sC]
    refine hT 4 rfl (fun _ _ => by go_simp; all_goals with_reducible rfl) ?_
    try simp only [gA, gB, gC, Act.put, sA, sB, sC]
    refine hTy 5 rfl (by kernel_rfl) (fun _ _ _ h => h) (by assumption) (yieldsIf_load_mid (by rfl) 35 (.tmp 16) rfl a1 0 rfl (qiC qP) _ (fun wH hSw => hr1 wH hSw.out) Tryz.underlying35 rfl (by kernel_rfl)) ?_
    try simp only [gA, gB, gC, Act.put, sA, sB, sC]
    refine hTy 6 rfl (by kernel_rfl) (fun _ _ _ h => h) (by assumption) (yieldsIf_load_mid (by rfl) 35 (.tmp 18) rfl a2 0 rfl (qiC qU) _ (fun wH hSw => hr2 wH hSw.out) Tryz.underlying35 rfl (by kernel_rfl)) ?_
    try simp only [gA, gB, gC, Act.put, sA, sB, sC]
    refine hT 7 rfl (fun _ _ => by go_simp; all_goals with_reducible rfl) ?_
    try simp only [gA, gB, gC, Act.put, sA, sB, sC]
    refine hT 8 rfl (fun _ _ => by go_simp; all_goals with_reducible rfl) ?_
    try simp only [gA, gB, gC, Act.put, sA, sB, sC]
    refine hT 9 rfl (fun _ _ => by go_simp; all_goals with_reducible rfl) ?_
    try simp only [gA, gB, gC, Act.put, sA, sB, sC]
    refine hT 10 rfl (fun _ _ => by go_simp; all_goals with_reducible rfl) ?_
    try simp only [gA, gB, gC, Act.put, sA, sB, sC]
    refine wpAnyH_done (by kernel_rfl) ?_ _
    go_wp2
    go_ret2
    exact HF.out _ _ HV.out hHeld.out
set_option maxHeartbeats 8000000 in
set_option maxRecDepth 100000 in
theorem st_create (h : TwoT w ρ G b b' cnt T U) (s : SpM) (hd : s.dof = 3) (hs : s.Ok) (hl : s.Lt) {W0 : World} (hBs : Bse W0 w ρ G) (hc : cnt < 1000000) (hlT : T.last + 1 < 18446744073709551616) (hlU : U.last + 1 < 18446744073709551616) :
    Calls Tryz.prog 16 #[.pointer (some ⟨b, 0, none⟩), .pointer (some ⟨b', 0, none⟩), .agg s.cells.toArray] w (SPost b b' cnt T U ρ G s w) := by
  obtain ⟨W, hW⟩ : ∃ W, w.alloc (.cells s.cells.toArray 44) = W := ⟨_, rfl⟩
  have hS : W.heap[w.heap.size]? = some (.cells s.cells.toArray 44 (0, 0)) := by subst hW; exact new_at _ _
  have m0 : Mod (fun _ => False) w W := by subst hW; exact (Mod.refl _ w).alloc _
  obtain ⟨h0, k0⟩ := h.do0 m0
  have hBs0 := hBs.step k0
  have hT0 := hBs0.tabs
  have hBn : w.heap.size < W.heap.size ∧ ¬ Foot ρ w.heap.size ∧ ¬ G w.heap.size := ⟨lt_of hS, (h.out (Nat.le_refl _)).1, (h.out (Nat.le_refl _)).2⟩
  have c0 : W.cell? ⟨w.heap.size, 0, none⟩ = some (.int .i64 (3)) := by rw [← hd]; exact (cell_of hS 0).trans rfl
  have c1 : (W).cell? ⟨w.heap.size, 1, none⟩ = some (.int .u64 s.path) := (cell_of hS 1).trans rfl
  have c2 : (W).cell? ⟨w.heap.size, 2, none⟩ = some (.string s.name) := (cell_of hS 2).trans rfl
  have c3 : (W).cell? ⟨w.heap.size, 3, none⟩ = some (.string s.who) := (cell_of hS 3).trans rfl
  have c4 : (W).cell? ⟨w.heap.size, 4, none⟩ = some (.int .u32 s.perm) := (cell_of hS 4).trans rfl
  have c5 : (W).cell? ⟨w.heap.size, 5, none⟩ = some (.int .u8 s.mode) := (cell_of hS 5).trans rfl
  have c6 : (W).cell? ⟨w.heap.size, 6, none⟩ = some (.int .u32 s.now) := (cell_of hS 6).trans rfl
  have c7 : (W).cell? ⟨w.heap.size, 7, none⟩ = some (.int .u64 s.off) := (cell_of hS 7).trans rfl
  have c8 : (W).cell? ⟨w.heap.size, 8, none⟩ = some (.int .u32 s.count) := (cell_of hS 8).trans rfl
  have c9 : (W).cell? ⟨w.heap.size, 9, none⟩ = some (.string s.data) := (cell_of hS 9).trans rfl
  obtain ⟨⟨T1, qP, eP⟩, hX⟩ : ∃ x : Tr × Qi × Int, (createT T s.path s.name s.perm s.mode s.who s.now) = x := ⟨_, rfl⟩
  obtain ⟨⟨U1, qU, eU⟩, hY⟩ : ∃ x : Tr × Qi × Int, (createT U s.path s.name s.perm s.mode s.who s.now) = x := ⟨_, rfl⟩
  have HST : Hid (stepT T s = (T1, eP)) := by
    show _ = _
    have e1 : T1 = (createT T s.path s.name s.perm s.mode s.who s.now).1 := by rw [hX]
    have e2 : eP = (createT T s.path s.name s.perm s.mode s.who s.now).2.2 := by rw [hX]
    rw [e1, e2]; unfold stepT; rw [hd]; rfl
  have HSU : Hid (stepT U s = (U1, eU)) := by
    show _ = _
    have e1 : U1 = (createT U s.path s.name s.perm s.mode s.who s.now).1 := by rw [hY]
    have e2 : eU = (createT U s.path s.name s.perm s.mode s.who s.now).2.2 := by rw [hY]
    rw [e1, e2]; unfold stepT; rw [hd]; rfl
  have HEQ : Hid (T = U → qP = qU ∧ eP = eU) := by
    intro e
    subst e
    have h3 := hX.symm.trans hY
    injection h3 with _ h3
    injection h3 with h4 h5
    exact ⟨h4, h5⟩
  have hP := (tp_create h0 hc s.path s.name s.perm s.mode s.who s.now hs.path hs.perm hs.mode hl.name hl.who hs.now hlT hT0)
  change Calls _ _ _ _ (RetP _ _ _ _ _ _ _ (.tuple #[.agg (qiC (createT T s.path s.name s.perm s.mode s.who s.now).2.1).toArray, .int .i64 (createT T s.path s.name s.perm s.mode s.who s.now).2.2]) (createT T s.path s.name s.perm s.mode s.who s.now).1) at hP
  rw [hX] at hP
  dsimp only at hP
  have HS := Lib.hid hS
  have HBn := Lib.hid hBn
  have K0 := Lib.hid k0
  have HBs := Lib.hid hBs0
  have HX := Lib.hid hX
  have HY := Lib.hid hY
  clear hX hY h0 k0 m0 hS hBn h hBs hBs0 hT0 hd
  go_enter Tryz.func16, Tryz.ntmps16
  go_wp2_with fail
  refine hP.mono ?_
  rintro e w1 ⟨rfl, ρ1, h1, k1⟩
  clear hP hW c0 c1 c2 c3 c4 c5 c6 c7 c8 c9
  have H1 := Lib.hid h1
  have K1 := Lib.hid k1
  clear h1 k1
  go_upto_region 18 with (refine wpl_store_row rfl 35 (.tmp 24) (.tmp 180) rfl rfl w1.heap.size (qiC qP) rfl rfl 35 _ (new_at _ _) rfl (qi_one _) (by kernel_rfl) ?_; intro V1 hq1 mq1)
  have m1 : Mod (fun _ => False) w1 V1 := ((Mod.refl (fun _ => False) w1).alloc _).trans' mq1 fun k hk e => by omega
  obtain ⟨h2, k2⟩ := H1.out.do0 m1
  have k2 := K1.out.trans k2
  obtain ⟨e2, f2, g2⟩ := k2.keep HBn.out.1 HBn.out.2.1 HBn.out.2.2
  have hS1 := e2.trans HS.out
  have c1 : (V1).cell? ⟨w.heap.size, 1, none⟩ = some (.int .u64 s.path) := (cell_of hS1 1).trans rfl
  have c2 : (V1).cell? ⟨w.heap.size, 2, none⟩ = some (.string s.name) := (cell_of hS1 2).trans rfl
  have c3 : (V1).cell? ⟨w.heap.size, 3, none⟩ = some (.string s.who) := (cell_of hS1 3).trans rfl
  have c4 : (V1).cell? ⟨w.heap.size, 4, none⟩ = some (.int .u32 s.perm) := (cell_of hS1 4).trans rfl
  have c5 : (V1).cell? ⟨w.heap.size, 5, none⟩ = some (.int .u8 s.mode) := (cell_of hS1 5).trans rfl
  have c6 : (V1).cell? ⟨w.heap.size, 6, none⟩ = some (.int .u32 s.now) := (cell_of hS1 6).trans rfl
  have c7 : (V1).cell? ⟨w.heap.size, 7, none⟩ = some (.int .u64 s.off) := (cell_of hS1 7).trans rfl
  have c8 : (V1).cell? ⟨w.heap.size, 8, none⟩ = some (.int .u32 s.count) := (cell_of hS1 8).trans rfl
  have c9 : (V1).cell? ⟨w.heap.size, 9, none⟩ = some (.string s.data) := (cell_of hS1 9).trans rfl
  have hT1 : Tabs V1 := (HBs.out.step k2).tabs
  have hR := (tr_create h2 s.path s.name s.perm s.mode s.who s.now hs.perm hs.mode hl.name hl.who hs.now hlU hT1)
  change Calls _ _ _ _ (RetR _ _ _ _ _ _ _ (.tuple #[.agg (qiC (createT U s.path s.name s.perm s.mode s.who s.now).2.1).toArray, .int .i64 (createT U s.path s.name s.perm s.mode s.who s.now).2.2]) (createT U s.path s.name s.perm s.mode s.who s.now).1) at hR
  rw [HY.out] at hR
  dsimp only at hR
  have hn1 := H1.out.out (Nat.le_refl w1.heap.size)
  have HQ1 : Hid (V1.heap[w1.heap.size]? = some (qiO qP)) := hq1
  have HN1 := Lib.hid hn1
  have H2 := Lib.hid h2
  have K2 := Lib.hid k2
  clear h2 k2 m1 mq1 hq1 hn1 e2 f2 g2 hS1 K1 H1
  generalize w1.heap.size = a1 at *
  go_wp2_with fail
  refine hR.mono ?_
  rintro e w2 ⟨rfl, G1, h3, k3⟩
  clear hR hT1 c1 c2 c3 c4 c5 c6 c7 c8 c9
  have H3 := Lib.hid h3
  have K3 := Lib.hid k3
  have HQ2 : Hid (w2.heap[a1]? = some (qiO qP)) := ((k3.keep (lt_of HQ1.out) HN1.out.1 HN1.out.2).1).trans HQ1.out
  clear h3 k3 HQ1 HN1
  go_upto_region 19 with (refine wpl_store_row rfl 35 (.tmp 26) (.tmp 197) rfl rfl w2.heap.size (qiC qU) rfl rfl 35 _ (new_at _ _) rfl (qi_one _) (by kernel_rfl) ?_; intro V2 hq2 mq2)
  have m2 : Mod (fun _ => False) w2 V2 := ((Mod.refl (fun _ => False) w2).alloc _).trans' mq2 fun k hk e => by omega
  have HQ3 : Hid (V2.heap[a1]? = some (qiO qP)) := (m2.block _ (lt_of HQ2.out) (fun x => x)).trans HQ2.out
  have HQ4 : Hid (V2.heap[w2.heap.size]? = some (qiO qU)) := hq2
  obtain ⟨h4, k4⟩ := H3.out.do0 m2
  have H4 := Lib.hid h4
  have K4 : Hid (TwM w V2 ρ ρ1 G G1) := K0.out.trans (K2.out.trans (K3.out.trans k4))
  have HF : Hid (∀ v X, (T = U → v = true) → Mod (fun _ => False) V2 X → SPost b b' cnt T U ρ G s w (.returned (.tuple #[.int .i64 eP, .bool v])) X) := fun v X hv hm => by
    obtain ⟨h5, k5⟩ := H4.out.do0 hm
    refine ⟨v, ρ1, G1, by rw [HST.out], hv, ?_, K4.out.trans k5⟩
    rw [HST.out, HSU.out]
    exact h5
  generalize w2.heap.size = a2 at *
  obtain ⟨be, hbe⟩ : ∃ x, decide (eP = eU) = x := ⟨_, rfl⟩
  have t1 : (eP == eU) = be := by rw [← hbe, Bool.eq_iff_iff]; simp
  obtain ⟨bq, hbq⟩ : ∃ x, eqQ qP qU = x := ⟨_, rfl⟩
  have hne : ∀ X, (binOp .eql 35 (.agg (qiC qP).toArray) (.agg (qiC qU).toArray)).run Tryz.prog X = .ok (.bool bq) X := fun X => by rw [← hbq]; exact eqlQ_any qP qU X
  have HV : Hid (T = U → (be && bq) = true) := fun e => by
    obtain ⟨e1, e2⟩ := HEQ.out e
    rw [← hbe, ← hbq, e1, e2, eqQ_self]; simp
  have hr1 : ∀ X, Mod (fun _ => False) V2 X → X.rangeAt a1 0 (qiC qP) := fun X hX => qi_rng ((hX.block _ (lt_of HQ3.out) (fun x => x)).trans HQ3.out)
  have hr2 : ∀ X, Mod (fun _ => False) V2 X → X.rangeAt a2 0 (qiC qU) := fun X hX => qi_rng ((hX.block _ (lt_of HQ4.out) (fun x => x)).trans HQ4.out)
  have hl1 := qi_len qP
  have hl2 := qi_len qU
  clear h4 k4 m2 mq2 hq2 hbe hbq HQ2 HX HY HEQ
  cases be with
  | false =>
    refine wp_region_held_drew (S := fun w' => Hid (Mod (fun _ => False) V2 w')) (by kernel_rfl) (Lib.hid (Mod.refl (fun _ => False) V2).drew) (fun hHeld => ?_)
    refine hT 0 rfl (fun _ _ => by go_simp; all_goals with_reducible rfl) ?_
    try simp only [gA, gB, gC, Act.put, sA, sB, sC]
    refine hT 1 rfl (fun _ _ => by go_simp; all_goals with_reducible rfl) ?_
    try simp only [gA, gB, gC, Act.put, sA, sB, sC]
    refine hT 2 rfl (fun _ _ => by go_simp; all_goals with_reducible rfl) ?_
    try simp only [gA, gB, gC, Act.put, sA, sB, sC]
    refine hT 3 rfl (fun _ _ => by go_simp; all_goals with_reducible rfl) ?_
    try simp only [gA, gB, gC, Act.put, sA, sB, sC]
    refine hT 4 rfl (fun _ _ => by go_simp; all_goals with_reducible rfl) ?_
    try simp only [gA, gB, gC, Act.put, sA, sB, sC]
    refine hSk 5 rfl ?_
    try simp only [gA, gB, gC, Act.put, sA, sB, sC]
    refine hSk 6 rfl ?_
    try simp only [gA, gB, gC, Act.put, sA, sB, sC]
    refine hSk 7 rfl ?_
    try simp only [gA, gB, gC, Act.put, sA, sB, sC]
    refine hT 8 rfl (fun _ _ => by go_simp; all_goals with_reducible rfl) ?_
    try simp only [gA, gB, gC, Act.put, sA, sB, sC]
    refine hT 9 rfl (fun _ _ => by go_simp; all_goals with_reducible rfl) ?_
    try simp only [gA, gB, gC, Act.put, sA, sB, sC]
    refine hT 10 rfl (fun _ _ => by go_simp; all_goals with_reducible rfl) ?_
    try simp only [gA, gB, gC, Act.put, sA, sB, sC]
    refine wpAnyH_done (by kernel_rfl) ?_ _
    go_wp2
    go_ret2
    exact HF.out _ _ HV.out hHeld.out
  | true =>
    refine wp_region_held_drew (S := fun w' => Hid (Mod (fun _ => False) V2 w')) (by kernel_rfl) (Lib.hid (Mod.refl (fun _ => False) V2).drew) (fun hHeld => ?_)
    refine hT 0 rfl (fun _ _ => by go_simp; all_goals with_reducible rfl) ?_
    try simp only [gA, gB, gC, Act.put, sA, sB, sC]
    refine hT 1 rfl (fun _ _ => by go_simp; all_goals with_reducible rfl) ?_
    try simp only [gA, gB, gC, Act.put, sA, sB, sC]
    refine hT 2 rfl (fun _ _ => by go_simp; all_goals with_reducible rfl) ?_
    try simp only [gA, gB, gC, Act.put, sA, sB, sC]
    refine hT 3 rfl (fun _ _ => by go_simp; all_goals with_reducible rfl) ?_
    try simp only [gA, gB, gC, Act.put, sA, sB, sC]
    refine hT 4 rfl (fun _ _ => by go_simp; all_goals with_reducible rfl) ?_
    try simp only [gA, gB, gC, Act.put, sA, sB, sC]
    refine hTy 5 rfl (by kernel_rfl) (fun _ _ _ h => h) (by assumption) (yieldsIf_load_mid (by rfl) 35 (.tmp 24) rfl a1 0 rfl (qiC qP) _ (fun wH hSw => hr1 wH hSw.out) Tryz.underlying35 rfl (by kernel_rfl)) ?_
    try simp only [gA, gB, gC, Act.put, sA, sB, sC]
    refine hTy 6 rfl (by kernel_rfl) (fun _ _ _ h => h) (by assumption) (yieldsIf_load_mid (by rfl) 35 (.tmp 26) rfl a2 0 rfl (qiC qU) _ (fun wH hSw => hr2 wH hSw.out) Tryz.underlying35 rfl (by kernel_rfl)) ?_
    try simp only [gA, gB, gC, Act.put, sA, sB, sC]
    refine hT 7 rfl (fun _ _ => by go_simp; all_goals with_reducible rfl) ?_
    try simp only [gA, gB, gC, Act.put, sA, sB, sC]
    refine hT 8 rfl (fun _ _ => by go_simp; all_goals with_reducible rfl) ?_
    try simp only [gA, gB, gC, Act.put, sA, sB, sC]
    refine hT 9 rfl (fun _ _ => by go_simp; all_goals with_reducible rfl) ?_
    try simp only [gA, gB, gC, Act.put, sA, sB, sC]
    refine hT 10 rfl (fun _ _ => by go_simp; all_goals with_reducible rfl) ?_
    try simp only [gA, gB, gC, Act.put, sA, sB, sC]
    refine wpAnyH_done (by kernel_rfl) ?_ _
    go_wp2
    go_ret2
    exact HF.out _ _ HV.out hHeld.out
end
end Go.Proofs.YtkcnbbjmkkaolaaGreatDoor
namespace Go.Proofs.YtkcnbbjmkkaolaaGreatDoor
open Go.RowKit

section
variable {w : World} {ρ : Nat → Role} {G : Nat → Prop} {b b' cnt : Nat} {T U : Tr}
set_option maxHeartbeats 8000000 in
set_option maxRecDepth 100000 in
theorem st_read (h : TwoT w ρ G b b' cnt T U) (s : SpM) (hd : s.dof = 4) (hs : s.Ok) {W0 : World} (hBs : Bse W0 w ρ G) :
    Calls Tryz.prog 16 #[.pointer (some ⟨b, 0, none⟩), .pointer (some ⟨b', 0, none⟩), .agg s.cells.toArray] w (SPost b b' cnt T U ρ G s w) := by
  obtain ⟨W, hW⟩ : ∃ W, w.alloc (.cells s.cells.toArray 44) = W := ⟨_, rfl⟩
  have hS : W.heap[w.heap.size]? = some (.cells s.cells.toArray 44 (0, 0)) := by subst hW; exact new_at _ _
  have m0 : Mod (fun _ => False) w W := by subst hW; exact (Mod.refl _ w).alloc _
  obtain ⟨h0, k0⟩ := h.do0 m0
  have hBs0 := hBs.step k0
  have hT0 := hBs0.tabs
  have hBn : w.heap.size < W.heap.size ∧ ¬ Foot ρ w.heap.size ∧ ¬ G w.heap.size := ⟨lt_of hS, (h.out (Nat.le_refl _)).1, (h.out (Nat.le_refl _)).2⟩
  have c0 : W.cell? ⟨w.heap.size, 0, none⟩ = some (.int .i64 (4)) := by rw [← hd]; exact (cell_of hS 0).trans rfl
  have c1 : (W).cell? ⟨w.heap.size, 1, none⟩ = some (.int .u64 s.path) := (cell_of hS 1).trans rfl
  have c2 : (W).cell? ⟨w.heap.size, 2, none⟩ = some (.string s.name) := (cell_of hS 2).trans rfl
  have c3 : (W).cell? ⟨w.heap.size, 3, none⟩ = some (.string s.who) := (cell_of hS 3).trans rfl
  have c4 : (W).cell? ⟨w.heap.size, 4, none⟩ = some (.int .u32 s.perm) := (cell_of hS 4).trans rfl
  have c5 : (W).cell? ⟨w.heap.size, 5, none⟩ = some (.int .u8 s.mode) := (cell_of hS 5).trans rfl
  have c6 : (W).cell? ⟨w.heap.size, 6, none⟩ = some (.int .u32 s.now) := (cell_of hS 6).trans rfl
  have c7 : (W).cell? ⟨w.heap.size, 7, none⟩ = some (.int .u64 s.off) := (cell_of hS 7).trans rfl
  have c8 : (W).cell? ⟨w.heap.size, 8, none⟩ = some (.int .u32 s.count) := (cell_of hS 8).trans rfl
  have c9 : (W).cell? ⟨w.heap.size, 9, none⟩ = some (.string s.data) := (cell_of hS 9).trans rfl
  obtain ⟨⟨T1, qP, eP⟩, hX⟩ : ∃ x : Tr × ByteArray × Int, (((T, readT T s.path s.off s.count) : Tr × ByteArray × Int)) = x := ⟨_, rfl⟩
  obtain ⟨⟨U1, qU, eU⟩, hY⟩ : ∃ x : Tr × ByteArray × Int, (((U, readT U s.path s.off s.count) : Tr × ByteArray × Int)) = x := ⟨_, rfl⟩
  have HEQ : Hid (T = U → qP = qU ∧ eP = eU) := by
    intro e
    subst e
    have h3 := hX.symm.trans hY
    injection h3 with _ h3
    injection h3 with h4 h5
    exact ⟨h4, h5⟩
  have HST : Hid (stepT T s = (T1, eP)) := by
    show _ = _
    have e1 : T1 = (((T, readT T s.path s.off s.count) : Tr × ByteArray × Int)).1 := by rw [hX]
    have e2 : eP = (((T, readT T s.path s.off s.count) : Tr × ByteArray × Int)).2.2 := by rw [hX]
    rw [e1, e2]; unfold stepT; rw [hd]; rfl
  have HSU : Hid (stepT U s = (U1, eU)) := by
    show _ = _
    have e1 : U1 = (((U, readT U s.path s.off s.count) : Tr × ByteArray × Int)).1 := by rw [hY]
    have e2 : eU = (((U, readT U s.path s.off s.count) : Tr × ByteArray × Int)).2.2 := by rw [hY]
    rw [e1, e2]; unfold stepT; rw [hd]; rfl
  have hP := (tp_read h0 s.path s.off s.count hs.path hs.off hs.count)
  change Calls _ _ _ _ (RetP _ _ _ _ _ _ _ (.tuple #[.string (((T, readT T s.path s.off s.count) : Tr × ByteArray × Int)).2.1, .int .i64 (((T, readT T s.path s.off s.count) : Tr × ByteArray × Int)).2.2]) (((T, readT T s.path s.off s.count) : Tr × ByteArray × Int)).1) at hP
  rw [hX] at hP
  dsimp only at hP
  have HS := Lib.hid hS
  have HBn := Lib.hid hBn
  have K0 := Lib.hid k0
  have HBs := Lib.hid hBs0
  have HY := Lib.hid hY
  clear hX hY h0 k0 m0 hS hBn h hBs hBs0 hT0 hd
  go_enter Tryz.func16, Tryz.ntmps16
  go_wp2_with fail
  refine hP.mono ?_
  rintro e w1 ⟨rfl, ρ1, h1, k1⟩
  clear hP hW c0 c1 c2 c3 c4 c5 c6 c7 c8 c9
  obtain ⟨e2, f2, g2⟩ := k1.keep HBn.out.1 HBn.out.2.1 HBn.out.2.2
  have hS1 := e2.trans HS.out
  have c1 : (w1).cell? ⟨w.heap.size, 1, none⟩ = some (.int .u64 s.path) := (cell_of hS1 1).trans rfl
  have c2 : (w1).cell? ⟨w.heap.size, 2, none⟩ = some (.string s.name) := (cell_of hS1 2).trans rfl
  have c3 : (w1).cell? ⟨w.heap.size, 3, none⟩ = some (.string s.who) := (cell_of hS1 3).trans rfl
  have c4 : (w1).cell? ⟨w.heap.size, 4, none⟩ = some (.int .u32 s.perm) := (cell_of hS1 4).trans rfl
  have c5 : (w1).cell? ⟨w.heap.size, 5, none⟩ = some (.int .u8 s.mode) := (cell_of hS1 5).trans rfl
  have c6 : (w1).cell? ⟨w.heap.size, 6, none⟩ = some (.int .u32 s.now) := (cell_of hS1 6).trans rfl
  have c7 : (w1).cell? ⟨w.heap.size, 7, none⟩ = some (.int .u64 s.off) := (cell_of hS1 7).trans rfl
  have c8 : (w1).cell? ⟨w.heap.size, 8, none⟩ = some (.int .u32 s.count) := (cell_of hS1 8).trans rfl
  have c9 : (w1).cell? ⟨w.heap.size, 9, none⟩ = some (.string s.data) := (cell_of hS1 9).trans rfl
  have hT1 : Tabs w1 := (HBs.out.step k1).tabs
  have hR := (tr_read h1 s.path s.off s.count hs.off hs.count)
  change Calls _ _ _ _ (RetR _ _ _ _ _ _ _ (.tuple #[.string (((U, readT U s.path s.off s.count) : Tr × ByteArray × Int)).2.1, .int .i64 (((U, readT U s.path s.off s.count) : Tr × ByteArray × Int)).2.2]) (((U, readT U s.path s.off s.count) : Tr × ByteArray × Int)).1) at hR
  rw [HY.out] at hR
  dsimp only at hR
  have K2 := Lib.hid k1
  clear h1 k1 e2 f2 g2 hS1
  go_wp2_with fail
  refine hR.mono ?_
  rintro e w2 ⟨rfl, G1, h3, k3⟩
  clear hR hT1 c1 c2 c3 c4 c5 c6 c7 c8 c9
  have H3 := Lib.hid h3
  have K4 : Hid (TwM w w2 ρ ρ1 G G1) := K0.out.trans (K2.out.trans k3)
  clear h3 k3
  have HF : Hid (∀ v X, (T = U → v = true) → Mod (fun _ => False) w2 X → SPost b b' cnt T U ρ G s w (.returned (.tuple #[.int .i64 eP, .bool v])) X) := fun v X hv hm => by
    obtain ⟨h5, k5⟩ := H3.out.do0 hm
    refine ⟨v, ρ1, G1, by rw [HST.out], hv, ?_, K4.out.trans k5⟩
    rw [HST.out, HSU.out]
    exact h5
  obtain ⟨be, hbe⟩ : ∃ x, decide (eP = eU) = x := ⟨_, rfl⟩
  have t1 : (eP == eU) = be := by rw [← hbe, Bool.eq_iff_iff]; simp
  obtain ⟨bq, hbq⟩ : ∃ x, decide (qP = qU) = x := ⟨_, rfl⟩
  have t2 : (qP.toList == qU.toList) = bq := by rw [← hbq, str_beq]
  have HV : Hid (T = U → (be && bq) = true) := fun e => by
    obtain ⟨e1, e2⟩ := HEQ.out e
    rw [← hbe, ← hbq, e1, e2]; simp
  clear hbe hbq HY HEQ
  cases be with
  | false =>
    go_wp2
    go_ret2
    exact HF.out _ _ HV.out (Mod.refl _ _)
  | true =>
    go_wp2
    go_ret2
    exact HF.out _ _ HV.out (Mod.refl _ _)
set_option maxHeartbeats 8000000 in
set_option maxRecDepth 100000 in
theorem st_write (h : TwoT w ρ G b b' cnt T U) (s : SpM) (hd : s.dof = 6) (hs : s.Ok) (hl : s.Lt) {W0 : World} (hBs : Bse W0 w ρ G) :
    Calls Tryz.prog 16 #[.pointer (some ⟨b, 0, none⟩), .pointer (some ⟨b', 0, none⟩), .agg s.cells.toArray] w (SPost b b' cnt T U ρ G s w) := by
  obtain ⟨W, hW⟩ : ∃ W, w.alloc (.cells s.cells.toArray 44) = W := ⟨_, rfl⟩
  have hS : W.heap[w.heap.size]? = some (.cells s.cells.toArray 44 (0, 0)) := by subst hW; exact new_at _ _
  have m0 : Mod (fun _ => False) w W := by subst hW; exact (Mod.refl _ w).alloc _
  obtain ⟨h0, k0⟩ := h.do0 m0
  have hBs0 := hBs.step k0
  have hT0 := hBs0.tabs
  have hBn : w.heap.size < W.heap.size ∧ ¬ Foot ρ w.heap.size ∧ ¬ G w.heap.size := ⟨lt_of hS, (h.out (Nat.le_refl _)).1, (h.out (Nat.le_refl _)).2⟩
  have c0 : W.cell? ⟨w.heap.size, 0, none⟩ = some (.int .i64 (6)) := by rw [← hd]; exact (cell_of hS 0).trans rfl
  have c1 : (W).cell? ⟨w.heap.size, 1, none⟩ = some (.int .u64 s.path) := (cell_of hS 1).trans rfl
  have c2 : (W).cell? ⟨w.heap.size, 2, none⟩ = some (.string s.name) := (cell_of hS 2).trans rfl
  have c3 : (W).cell? ⟨w.heap.size, 3, none⟩ = some (.string s.who) := (cell_of hS 3).trans rfl
  have c4 : (W).cell? ⟨w.heap.size, 4, none⟩ = some (.int .u32 s.perm) := (cell_of hS 4).trans rfl
  have c5 : (W).cell? ⟨w.heap.size, 5, none⟩ = some (.int .u8 s.mode) := (cell_of hS 5).trans rfl
  have c6 : (W).cell? ⟨w.heap.size, 6, none⟩ = some (.int .u32 s.now) := (cell_of hS 6).trans rfl
  have c7 : (W).cell? ⟨w.heap.size, 7, none⟩ = some (.int .u64 s.off) := (cell_of hS 7).trans rfl
  have c8 : (W).cell? ⟨w.heap.size, 8, none⟩ = some (.int .u32 s.count) := (cell_of hS 8).trans rfl
  have c9 : (W).cell? ⟨w.heap.size, 9, none⟩ = some (.string s.data) := (cell_of hS 9).trans rfl
  obtain ⟨⟨T1, qP, eP⟩, hX⟩ : ∃ x : Tr × Nat × Int, (writeT T s.path s.off s.data s.who s.now) = x := ⟨_, rfl⟩
  obtain ⟨⟨U1, qU, eU⟩, hY⟩ : ∃ x : Tr × Nat × Int, (writeT U s.path s.off s.data s.who s.now) = x := ⟨_, rfl⟩
  have HEQ : Hid (T = U → qP = qU ∧ eP = eU) := by
    intro e
    subst e
    have h3 := hX.symm.trans hY
    injection h3 with _ h3
    injection h3 with h4 h5
    exact ⟨h4, h5⟩
  have HST : Hid (stepT T s = (T1, eP)) := by
    show _ = _
    have e1 : T1 = (writeT T s.path s.off s.data s.who s.now).1 := by rw [hX]
    have e2 : eP = (writeT T s.path s.off s.data s.who s.now).2.2 := by rw [hX]
    rw [e1, e2]; unfold stepT; rw [hd]; rfl
  have HSU : Hid (stepT U s = (U1, eU)) := by
    show _ = _
    have e1 : U1 = (writeT U s.path s.off s.data s.who s.now).1 := by rw [hY]
    have e2 : eU = (writeT U s.path s.off s.data s.who s.now).2.2 := by rw [hY]
    rw [e1, e2]; unfold stepT; rw [hd]; rfl
  have hP := (tp_write h0 s.path s.off s.data s.who s.now hs.path hs.off hl.data hl.who hs.now)
  change Calls _ _ _ _ (RetP _ _ _ _ _ _ _ (.tuple #[.int .u32 (writeT T s.path s.off s.data s.who s.now).2.1, .int .i64 (writeT T s.path s.off s.data s.who s.now).2.2]) (writeT T s.path s.off s.data s.who s.now).1) at hP
  rw [hX] at hP
  dsimp only at hP
  have HS := Lib.hid hS
  have HBn := Lib.hid hBn
  have K0 := Lib.hid k0
  have HBs := Lib.hid hBs0
  have HY := Lib.hid hY
  clear hX hY h0 k0 m0 hS hBn h hBs hBs0 hT0 hd
  go_enter Tryz.func16, Tryz.ntmps16
  go_wp2_with fail
  refine hP.mono ?_
  rintro e w1 ⟨rfl, ρ1, h1, k1⟩
  clear hP hW c0 c1 c2 c3 c4 c5 c6 c7 c8 c9
  obtain ⟨e2, f2, g2⟩ := k1.keep HBn.out.1 HBn.out.2.1 HBn.out.2.2
  have hS1 := e2.trans HS.out
  have c1 : (w1).cell? ⟨w.heap.size, 1, none⟩ = some (.int .u64 s.path) := (cell_of hS1 1).trans rfl
  have c2 : (w1).cell? ⟨w.heap.size, 2, none⟩ = some (.string s.name) := (cell_of hS1 2).trans rfl
  have c3 : (w1).cell? ⟨w.heap.size, 3, none⟩ = some (.string s.who) := (cell_of hS1 3).trans rfl
  have c4 : (w1).cell? ⟨w.heap.size, 4, none⟩ = some (.int .u32 s.perm) := (cell_of hS1 4).trans rfl
  have c5 : (w1).cell? ⟨w.heap.size, 5, none⟩ = some (.int .u8 s.mode) := (cell_of hS1 5).trans rfl
  have c6 : (w1).cell? ⟨w.heap.size, 6, none⟩ = some (.int .u32 s.now) := (cell_of hS1 6).trans rfl
  have c7 : (w1).cell? ⟨w.heap.size, 7, none⟩ = some (.int .u64 s.off) := (cell_of hS1 7).trans rfl
  have c8 : (w1).cell? ⟨w.heap.size, 8, none⟩ = some (.int .u32 s.count) := (cell_of hS1 8).trans rfl
  have c9 : (w1).cell? ⟨w.heap.size, 9, none⟩ = some (.string s.data) := (cell_of hS1 9).trans rfl
  have hT1 : Tabs w1 := (HBs.out.step k1).tabs
  have hR := (tr_write h1 s.path s.off s.data s.who s.now hs.off hl.data hl.who hs.now)
  change Calls _ _ _ _ (RetR _ _ _ _ _ _ _ (.tuple #[.int .u32 (writeT U s.path s.off s.data s.who s.now).2.1, .int .i64 (writeT U s.path s.off s.data s.who s.now).2.2]) (writeT U s.path s.off s.data s.who s.now).1) at hR
  rw [HY.out] at hR
  dsimp only at hR
  have K2 := Lib.hid k1
  clear h1 k1 e2 f2 g2 hS1
  go_wp2_with fail
  refine hR.mono ?_
  rintro e w2 ⟨rfl, G1, h3, k3⟩
  clear hR hT1 c1 c2 c3 c4 c5 c6 c7 c8 c9
  have H3 := Lib.hid h3
  have K4 : Hid (TwM w w2 ρ ρ1 G G1) := K0.out.trans (K2.out.trans k3)
  clear h3 k3
  have HF : Hid (∀ v X, (T = U → v = true) → Mod (fun _ => False) w2 X → SPost b b' cnt T U ρ G s w (.returned (.tuple #[.int .i64 eP, .bool v])) X) := fun v X hv hm => by
    obtain ⟨h5, k5⟩ := H3.out.do0 hm
    refine ⟨v, ρ1, G1, by rw [HST.out], hv, ?_, K4.out.trans k5⟩
    rw [HST.out, HSU.out]
    exact h5
  obtain ⟨be, hbe⟩ : ∃ x, decide (eP = eU) = x := ⟨_, rfl⟩
  have t1 : (eP == eU) = be := by rw [← hbe, Bool.eq_iff_iff]; simp
  obtain ⟨bq, hbq⟩ : ∃ x, decide (qP = qU) = x := ⟨_, rfl⟩
  have t2 : ((qP : Int) == (qU : Int)) = bq := by rw [← hbq, Bool.eq_iff_iff]; simp; omega
  have t2' : (qP == qU) = bq := by rw [← hbq, Bool.eq_iff_iff]; simp
  have HV : Hid (T = U → (be && bq) = true) := fun e => by
    obtain ⟨e1, e2⟩ := HEQ.out e
    rw [← hbe, ← hbq, e1, e2]; simp
  clear hbe hbq HY HEQ
  cases be with
  | false =>
    go_wp2
    go_ret2
    exact HF.out _ _ HV.out (Mod.refl _ _)
  | true =>
    go_wp2
    go_ret2
    exact HF.out _ _ HV.out (Mod.refl _ _)
set_option maxHeartbeats 8000000 in
set_option maxRecDepth 100000 in
theorem st_remove (h : TwoT w ρ G b b' cnt T U) (s : SpM) (hd : s.dof = 7) (hs : s.Ok) (hl : s.Lt) {W0 : World} (hBs : Bse W0 w ρ G) :
    Calls Tryz.prog 16 #[.pointer (some ⟨b, 0, none⟩), .pointer (some ⟨b', 0, none⟩), .agg s.cells.toArray] w (SPost b b' cnt T U ρ G s w) := by
  obtain ⟨W, hW⟩ : ∃ W, w.alloc (.cells s.cells.toArray 44) = W := ⟨_, rfl⟩
  have hS : W.heap[w.heap.size]? = some (.cells s.cells.toArray 44 (0, 0)) := by subst hW; exact new_at _ _
  have m0 : Mod (fun _ => False) w W := by subst hW; exact (Mod.refl _ w).alloc _
  obtain ⟨h0, k0⟩ := h.do0 m0
  have hBs0 := hBs.step k0
  have hT0 := hBs0.tabs
  have hBn : w.heap.size < W.heap.size ∧ ¬ Foot ρ w.heap.size ∧ ¬ G w.heap.size := ⟨lt_of hS, (h.out (Nat.le_refl _)).1, (h.out (Nat.le_refl _)).2⟩
  have c0 : W.cell? ⟨w.heap.size, 0, none⟩ = some (.int .i64 (7)) := by rw [← hd]; exact (cell_of hS 0).trans rfl
  have c1 : (W).cell? ⟨w.heap.size, 1, none⟩ = some (.int .u64 s.path) := (cell_of hS 1).trans rfl
  have c2 : (W).cell? ⟨w.heap.size, 2, none⟩ = some (.string s.name) := (cell_of hS 2).trans rfl
  have c3 : (W).cell? ⟨w.heap.size, 3, none⟩ = some (.string s.who) := (cell_of hS 3).trans rfl
  have c4 : (W).cell? ⟨w.heap.size, 4, none⟩ = some (.int .u32 s.perm) := (cell_of hS 4).trans rfl
  have c5 : (W).cell? ⟨w.heap.size, 5, none⟩ = some (.int .u8 s.mode) := (cell_of hS 5).trans rfl
  have c6 : (W).cell? ⟨w.heap.size, 6, none⟩ = some (.int .u32 s.now) := (cell_of hS 6).trans rfl
  have c7 : (W).cell? ⟨w.heap.size, 7, none⟩ = some (.int .u64 s.off) := (cell_of hS 7).trans rfl
  have c8 : (W).cell? ⟨w.heap.size, 8, none⟩ = some (.int .u32 s.count) := (cell_of hS 8).trans rfl
  have c9 : (W).cell? ⟨w.heap.size, 9, none⟩ = some (.string s.data) := (cell_of hS 9).trans rfl
  obtain ⟨⟨T1, eP⟩, hX⟩ : ∃ x : Tr × Int, (removeT T s.path s.who s.now) = x := ⟨_, rfl⟩
  obtain ⟨⟨U1, eU⟩, hY⟩ : ∃ x : Tr × Int, (removeT U s.path s.who s.now) = x := ⟨_, rfl⟩
  have HEQ : Hid (T = U → eP = eU) := by
    intro e
    subst e
    have h3 := hX.symm.trans hY
    injection h3 with _ h3
  have HST : Hid (stepT T s = (T1, eP)) := by
    show _ = _
    rw [← hX]; (unfold stepT; rw [hd]; rfl)
  have HSU : Hid (stepT U s = (U1, eU)) := by
    show _ = _
    rw [← hY]; (unfold stepT; rw [hd]; rfl)
  have hP := (tp_remove h0 s.path s.who s.now hs.path hl.who hs.now)
  rw [hX] at hP
  dsimp only at hP
  have HS := Lib.hid hS
  have HBn := Lib.hid hBn
  have K0 := Lib.hid k0
  have HBs := Lib.hid hBs0
  have HY := Lib.hid hY
  clear hX hY h0 k0 m0 hS hBn h hBs hBs0 hT0 hd
  go_enter Tryz.func16, Tryz.ntmps16
  go_wp2_with fail
  refine hP.mono ?_
  rintro e w1 ⟨rfl, ρ1, h1, k1⟩
  clear hP hW c0 c1 c2 c3 c4 c5 c6 c7 c8 c9
  obtain ⟨e2, f2, g2⟩ := k1.keep HBn.out.1 HBn.out.2.1 HBn.out.2.2
  have hS1 := e2.trans HS.out
  have c1 : (w1).cell? ⟨w.heap.size, 1, none⟩ = some (.int .u64 s.path) := (cell_of hS1 1).trans rfl
  have c2 : (w1).cell? ⟨w.heap.size, 2, none⟩ = some (.string s.name) := (cell_of hS1 2).trans rfl
  have c3 : (w1).cell? ⟨w.heap.size, 3, none⟩ = some (.string s.who) := (cell_of hS1 3).trans rfl
  have c4 : (w1).cell? ⟨w.heap.size, 4, none⟩ = some (.int .u32 s.perm) := (cell_of hS1 4).trans rfl
  have c5 : (w1).cell? ⟨w.heap.size, 5, none⟩ = some (.int .u8 s.mode) := (cell_of hS1 5).trans rfl
  have c6 : (w1).cell? ⟨w.heap.size, 6, none⟩ = some (.int .u32 s.now) := (cell_of hS1 6).trans rfl
  have c7 : (w1).cell? ⟨w.heap.size, 7, none⟩ = some (.int .u64 s.off) := (cell_of hS1 7).trans rfl
  have c8 : (w1).cell? ⟨w.heap.size, 8, none⟩ = some (.int .u32 s.count) := (cell_of hS1 8).trans rfl
  have c9 : (w1).cell? ⟨w.heap.size, 9, none⟩ = some (.string s.data) := (cell_of hS1 9).trans rfl
  have hT1 : Tabs w1 := (HBs.out.step k1).tabs
  have hr0 : w1.rangeAt w.heap.size 10 s.st.cells := fun j u hu => (cell_of hS1 (10 + j)).trans (by
    rw [List.getElem?_toArray]
    unfold SpM.cells
    rw [List.getElem?_append_right (by simp), ← hu]
    congr 1
    simp)
  have hR := (tr_remove h1 s.path s.who s.now hl.who hs.now)
  rw [HY.out] at hR
  dsimp only at hR
  have K2 := Lib.hid k1
  clear h1 k1 e2 f2 g2 hS1
  go_wp2_with (fail)
  refine hR.mono ?_
  rintro e w2 ⟨rfl, G1, h3, k3⟩
  clear hR hT1 c1 c2 c3 c4 c5 c6 c7 c8 c9 hr0
  have H3 := Lib.hid h3
  have K4 : Hid (TwM w w2 ρ ρ1 G G1) := K0.out.trans (K2.out.trans k3)
  clear h3 k3
  have HF : Hid (∀ v X, (T = U → v = true) → Mod (fun _ => False) w2 X → SPost b b' cnt T U ρ G s w (.returned (.tuple #[.int .i64 eP, .bool v])) X) := fun v X hv hm => by
    obtain ⟨h5, k5⟩ := H3.out.do0 hm
    refine ⟨v, ρ1, G1, by rw [HST.out], hv, ?_, K4.out.trans k5⟩
    rw [HST.out, HSU.out]
    exact h5
  obtain ⟨be, hbe⟩ : ∃ x, decide (eP = eU) = x := ⟨_, rfl⟩
  have t1 : (eP == eU) = be := by rw [← hbe, Bool.eq_iff_iff]; simp
  have HV : Hid (T = U → be = true) := fun e => by
    rw [← hbe, HEQ.out e]; simp
  clear hbe HY HEQ
  go_wp2
  go_ret2
  exact HF.out _ _ HV.out (Mod.refl _ _)
set_option maxHeartbeats 8000000 in
set_option maxRecDepth 100000 in
theorem st_wstat (h : TwoT w ρ G b b' cnt T U) (s : SpM) (d0 : s.dof ≠ 0) (d1 : s.dof ≠ 1) (d2 : s.dof ≠ 2) (d3 : s.dof ≠ 3) (d4 : s.dof ≠ 4) (d5 : s.dof ≠ 5) (d6 : s.dof ≠ 6) (d7 : s.dof ≠ 7) (hs : s.Ok) (hl : s.Lt) {W0 : World} (hBs : Bse W0 w ρ G) :
    Calls Tryz.prog 16 #[.pointer (some ⟨b, 0, none⟩), .pointer (some ⟨b', 0, none⟩), .agg s.cells.toArray] w (SPost b b' cnt T U ρ G s w) := by
  obtain ⟨dd, hd⟩ : ∃ x, s.dof = x := ⟨_, rfl⟩
  obtain ⟨W, hW⟩ : ∃ W, w.alloc (.cells s.cells.toArray 44) = W := ⟨_, rfl⟩
  have hS : W.heap[w.heap.size]? = some (.cells s.cells.toArray 44 (0, 0)) := by subst hW; exact new_at _ _
  have m0 : Mod (fun _ => False) w W := by subst hW; exact (Mod.refl _ w).alloc _
  obtain ⟨h0, k0⟩ := h.do0 m0
  have hBs0 := hBs.step k0
  have hT0 := hBs0.tabs
  have hBn : w.heap.size < W.heap.size ∧ ¬ Foot ρ w.heap.size ∧ ¬ G w.heap.size := ⟨lt_of hS, (h.out (Nat.le_refl _)).1, (h.out (Nat.le_refl _)).2⟩
  have c0 : W.cell? ⟨w.heap.size, 0, none⟩ = some (.int .i64 (dd)) := by rw [← hd]; exact (cell_of hS 0).trans rfl
  have c1 : (W).cell? ⟨w.heap.size, 1, none⟩ = some (.int .u64 s.path) := (cell_of hS 1).trans rfl
  have c2 : (W).cell? ⟨w.heap.size, 2, none⟩ = some (.string s.name) := (cell_of hS 2).trans rfl
  have c3 : (W).cell? ⟨w.heap.size, 3, none⟩ = some (.string s.who) := (cell_of hS 3).trans rfl
  have c4 : (W).cell? ⟨w.heap.size, 4, none⟩ = some (.int .u32 s.perm) := (cell_of hS 4).trans rfl
  have c5 : (W).cell? ⟨w.heap.size, 5, none⟩ = some (.int .u8 s.mode) := (cell_of hS 5).trans rfl
  have c6 : (W).cell? ⟨w.heap.size, 6, none⟩ = some (.int .u32 s.now) := (cell_of hS 6).trans rfl
  have c7 : (W).cell? ⟨w.heap.size, 7, none⟩ = some (.int .u64 s.off) := (cell_of hS 7).trans rfl
  have c8 : (W).cell? ⟨w.heap.size, 8, none⟩ = some (.int .u32 s.count) := (cell_of hS 8).trans rfl
  have c9 : (W).cell? ⟨w.heap.size, 9, none⟩ = some (.string s.data) := (cell_of hS 9).trans rfl
  have z0 : (dd == 0) = false := by rw [← hd]; simpa using d0
  have z1 : (dd == 1) = false := by rw [← hd]; simpa using d1
  have z2 : (dd == 2) = false := by rw [← hd]; simpa using d2
  have z3 : (dd == 3) = false := by rw [← hd]; simpa using d3
  have z4 : (dd == 4) = false := by rw [← hd]; simpa using d4
  have z5 : (dd == 5) = false := by rw [← hd]; simpa using d5
  have z6 : (dd == 6) = false := by rw [← hd]; simpa using d6
  have z7 : (dd == 7) = false := by rw [← hd]; simpa using d7
  obtain ⟨⟨T1, eP⟩, hX⟩ : ∃ x : Tr × Int, (wstatT T s.path s.st s.who s.now) = x := ⟨_, rfl⟩
  obtain ⟨⟨U1, eU⟩, hY⟩ : ∃ x : Tr × Int, (wstatT U s.path s.st s.who s.now) = x := ⟨_, rfl⟩
  have HEQ : Hid (T = U → eP = eU) := by
    intro e
    subst e
    have h3 := hX.symm.trans hY
    injection h3 with _ h3
  have HST : Hid (stepT T s = (T1, eP)) := by
    show _ = _
    rw [← hX]; (unfold stepT; rw [if_neg d0, if_neg d1, if_neg d2, if_neg d3, if_neg d4, if_neg d5, if_neg d6, if_neg d7])
  have HSU : Hid (stepT U s = (U1, eU)) := by
    show _ = _
    rw [← hY]; (unfold stepT; rw [if_neg d0, if_neg d1, if_neg d2, if_neg d3, if_neg d4, if_neg d5, if_neg d6, if_neg d7])
  have hP := (tp_wstat h0 s.path s.st s.who s.now hs.path (SpM.bd hs hl) hl.who hs.now hT0)
  rw [hX] at hP
  dsimp only at hP
  have HS := Lib.hid hS
  have HBn := Lib.hid hBn
  have K0 := Lib.hid k0
  have HBs := Lib.hid hBs0
  have HY := Lib.hid hY
  have hr1 : W.rangeAt w.heap.size 10 s.st.cells := fun j u hu => (cell_of hS (10 + j)).trans (by
    rw [List.getElem?_toArray]
    unfold SpM.cells
    rw [List.getElem?_append_right (by simp), ← hu]
    congr 1
    simp)
  have hsl := st_len s.st
  clear hX hY h0 k0 m0 hS hBn h hBs hBs0 hT0 hd d0 d1 d2 d3 d4 d5 d6 d7
  go_enter Tryz.func16, Tryz.ntmps16
  go_wp2_with (refine wpList_load_mid rfl 37 (.tmp 331) rfl w.heap.size 10 rfl s.st.cells _ hr1 Tryz.underlying37 rfl (by kernel_rfl) ?_)
  refine hP.mono ?_
  rintro e w1 ⟨rfl, ρ1, h1, k1⟩
  clear hP hW c0 c1 c2 c3 c4 c5 c6 c7 c8 c9
  obtain ⟨e2, f2, g2⟩ := k1.keep HBn.out.1 HBn.out.2.1 HBn.out.2.2
  have hS1 := e2.trans HS.out
  have c1 : (w1).cell? ⟨w.heap.size, 1, none⟩ = some (.int .u64 s.path) := (cell_of hS1 1).trans rfl
  have c2 : (w1).cell? ⟨w.heap.size, 2, none⟩ = some (.string s.name) := (cell_of hS1 2).trans rfl
  have c3 : (w1).cell? ⟨w.heap.size, 3, none⟩ = some (.string s.who) := (cell_of hS1 3).trans rfl
  have c4 : (w1).cell? ⟨w.heap.size, 4, none⟩ = some (.int .u32 s.perm) := (cell_of hS1 4).trans rfl
  have c5 : (w1).cell? ⟨w.heap.size, 5, none⟩ = some (.int .u8 s.mode) := (cell_of hS1 5).trans rfl
  have c6 : (w1).cell? ⟨w.heap.size, 6, none⟩ = some (.int .u32 s.now) := (cell_of hS1 6).trans rfl
  have c7 : (w1).cell? ⟨w.heap.size, 7, none⟩ = some (.int .u64 s.off) := (cell_of hS1 7).trans rfl
  have c8 : (w1).cell? ⟨w.heap.size, 8, none⟩ = some (.int .u32 s.count) := (cell_of hS1 8).trans rfl
  have c9 : (w1).cell? ⟨w.heap.size, 9, none⟩ = some (.string s.data) := (cell_of hS1 9).trans rfl
  have hT1 : Tabs w1 := (HBs.out.step k1).tabs
  have hr0 : w1.rangeAt w.heap.size 10 s.st.cells := fun j u hu => (cell_of hS1 (10 + j)).trans (by
    rw [List.getElem?_toArray]
    unfold SpM.cells
    rw [List.getElem?_append_right (by simp), ← hu]
    congr 1
    simp)
  have hR := (tr_wstat h1 s.path s.st s.who s.now (SpM.bd hs hl) hl.who hs.now hT1)
  rw [HY.out] at hR
  dsimp only at hR
  have K2 := Lib.hid k1
  clear h1 k1 e2 f2 g2 hS1
  go_wp2_with ((refine wpList_load_mid rfl 37 (.tmp 343) rfl w.heap.size 10 rfl s.st.cells _ hr0 Tryz.underlying37 rfl (by kernel_rfl) ?_))
  refine hR.mono ?_
  rintro e w2 ⟨rfl, G1, h3, k3⟩
  clear hR hT1 c1 c2 c3 c4 c5 c6 c7 c8 c9 hr0
  have H3 := Lib.hid h3
  have K4 : Hid (TwM w w2 ρ ρ1 G G1) := K0.out.trans (K2.out.trans k3)
  clear h3 k3
  have HF : Hid (∀ v X, (T = U → v = true) → Mod (fun _ => False) w2 X → SPost b b' cnt T U ρ G s w (.returned (.tuple #[.int .i64 eP, .bool v])) X) := fun v X hv hm => by
    obtain ⟨h5, k5⟩ := H3.out.do0 hm
    refine ⟨v, ρ1, G1, by rw [HST.out], hv, ?_, K4.out.trans k5⟩
    rw [HST.out, HSU.out]
    exact h5
  obtain ⟨be, hbe⟩ : ∃ x, decide (eP = eU) = x := ⟨_, rfl⟩
  have t1 : (eP == eU) = be := by rw [← hbe, Bool.eq_iff_iff]; simp
  have HV : Hid (T = U → be = true) := fun e => by
    rw [← hbe, HEQ.out e]; simp
  clear hbe HY HEQ
  go_wp2
  go_ret2
  exact HF.out _ _ HV.out (Mod.refl _ _)
end
end Go.Proofs.YtkcnbbjmkkaolaaGreatDoor
namespace Go.Proofs.YtkcnbbjmkkaolaaGreatDoor
open Go.RowKit

theorem kidSts_len {L : List Nd} {n : Nd} (h : n.kids.length ≤ 112) : (kidSts L n).length ≤ 1000000 := by
  unfold kidSts
  rw [List.length_map]
  have := List.length_filter_le (fun k => decide (k ≠ 0)) n.kids
  omega
theorem listT_len {T : Tr} (h : WF T) (p : Nat) : (listT T p).1.length ≤ 1000000 := by
  unfold listT
  cases hl : look T.L p with
  | none => exact Nat.zero_le _
  | some n =>
    show (Prod.fst (if _ then _ else _ : List St × Int)).length ≤ _
    split
    · exact Nat.zero_le _
    · exact kidSts_len (h.ok n (look_some hl).1).kl
section
variable {w : World} {ρ : Nat → Role} {G : Nat → Prop} {b b' cnt : Nat} {T U : Tr}
set_option maxHeartbeats 8000000 in
set_option maxRecDepth 100000 in
theorem st_stat (h : TwoT w ρ G b b' cnt T U) (s : SpM) (hd : s.dof = 0) (hs : s.Ok) {W0 : World} (hBs : Bse W0 w ρ G) :
    Calls Tryz.prog 16 #[.pointer (some ⟨b, 0, none⟩), .pointer (some ⟨b', 0, none⟩), .agg s.cells.toArray] w (SPost b b' cnt T U ρ G s w) := by
  obtain ⟨W, hW⟩ : ∃ W, w.alloc (.cells s.cells.toArray 44) = W := ⟨_, rfl⟩
  have hS : W.heap[w.heap.size]? = some (.cells s.cells.toArray 44 (0, 0)) := by subst hW; exact new_at _ _
  have m0 : Mod (fun _ => False) w W := by subst hW; exact (Mod.refl _ w).alloc _
  obtain ⟨h0, k0⟩ := h.do0 m0
  have hBs0 := hBs.step k0
  have hT0 := hBs0.tabs
  have hBn : w.heap.size < W.heap.size ∧ ¬ Foot ρ w.heap.size ∧ ¬ G w.heap.size := ⟨lt_of hS, (h.out (Nat.le_refl _)).1, (h.out (Nat.le_refl _)).2⟩
  have c0 : W.cell? ⟨w.heap.size, 0, none⟩ = some (.int .i64 (0)) := by rw [← hd]; exact (cell_of hS 0).trans rfl
  have c1 : W.cell? ⟨w.heap.size, 1, none⟩ = some (.int .u64 s.path) := (cell_of hS 1).trans rfl
  obtain ⟨⟨sP, eP⟩, hX⟩ : ∃ x : St × Int, statT T s.path = x := ⟨_, rfl⟩
  obtain ⟨⟨sU, eU⟩, hY⟩ : ∃ x : St × Int, statT U s.path = x := ⟨_, rfl⟩
  obtain ⟨⟨pP, fP⟩, hX2⟩ : ∃ x : Nat × Int, parentT T s.path = x := ⟨_, rfl⟩
  obtain ⟨⟨pU, fU⟩, hY2⟩ : ∃ x : Nat × Int, parentT U s.path = x := ⟨_, rfl⟩
  have HST : Hid (stepT T s = (T, eP)) := by
    show _ = _
    have e2 : eP = (statT T s.path).2 := by rw [hX]
    rw [e2]; unfold stepT; rw [hd]; rfl
  have HSU : Hid (stepT U s = (U, eU)) := by
    show _ = _
    have e2 : eU = (statT U s.path).2 := by rw [hY]
    rw [e2]; unfold stepT; rw [hd]; rfl
  have HEQ : Hid (T = U → sP = sU ∧ eP = eU ∧ pP = pU ∧ fP = fU) := by
    intro e
    subst e
    have h3 := hX.symm.trans hY
    have h4 := hX2.symm.trans hY2
    injection h3 with a1 a2
    injection h4 with a3 a4
    exact ⟨a1, a2, a3, a4⟩
  have hA : ∀ X, Mod (fun _ => False) W X → Calls Tryz.prog 26 #[.pointer (some ⟨b, 0, none⟩), .int .u64 s.path] X fun e w' => e = .returned (.tuple #[.agg sP.cells.toArray, .int .i64 eP]) ∧ Mod (fun _ => False) X w' := fun X hm => by
    obtain ⟨mb, am, vk, hP⟩ := (h0.do0 hm).1.p
    have := pstat_any hP h0.wfT s.path hs.path
    rw [hX] at this
    exact this
  have hB : ∀ X, Mod (fun _ => False) W X → Calls Tryz.prog 36 #[.pointer (some ⟨b', 0, none⟩), .int .u64 s.path] X fun e w' => e = .returned (.tuple #[.agg sU.cells.toArray, .int .i64 eU]) ∧ Mod (fun _ => False) X w' := fun X hm => by
    obtain ⟨g, cap, vks, hR⟩ := (h0.do0 hm).1.r
    have := rStat_any b' g cap U vks s.path X hR.rv h0.wfU.len h0.wfU.ok
    rw [hY] at this
    exact this
  have hC : ∀ X, Mod (fun _ => False) W X → Calls Tryz.prog 27 #[.pointer (some ⟨b, 0, none⟩), .int .u64 s.path] X fun e w' => e = .returned (.tuple #[.int .u64 pP, .int .i64 fP]) ∧ X = w' := fun X hm => by
    obtain ⟨mb, am, vk, hP⟩ := (h0.do0 hm).1.p
    have := pparent_any hP s.path hs.path
    rw [hX2] at this
    exact this
  have hD : ∀ X, Mod (fun _ => False) W X → Calls Tryz.prog 37 #[.pointer (some ⟨b', 0, none⟩), .int .u64 s.path] X fun e w' => e = .returned (.tuple #[.int .u64 pU, .int .i64 fU]) ∧ X = w' := fun X hm => by
    obtain ⟨g, cap, vks, hR⟩ := (h0.do0 hm).1.r
    have := rParent_any b' g cap U vks s.path X hR.rv h0.wfU.len
    rw [hY2] at this
    exact this
  have HF : Hid (∀ v X, (T = U → v = true) → Mod (fun _ => False) W X → SPost b b' cnt T U ρ G s w (.returned (.tuple #[.int .i64 eP, .bool v])) X) := fun v X hv hm => by
    obtain ⟨h5, k5⟩ := h0.do0 hm
    refine ⟨v, ρ, G, by rw [HST.out], hv, ?_, k0.trans k5⟩
    rw [HST.out, HSU.out]
    exact h5.mono (Nat.le_succ _)
  have HC := Lib.hid hC
  have HD := Lib.hid hD
  have HB := Lib.hid hB
  have hAW := hA W (Mod.refl _ _)
  have HS := Lib.hid hS
  clear hX hY hX2 hY2 h0 k0 m0 hS hBn h hBs hBs0 hT0 hd hC hD hB hA
  go_enter Tryz.func16, Tryz.ntmps16
  go_wp2_with fail
  refine hAW.mono ?_
  rintro e w1 ⟨rfl, m1⟩
  clear hAW hW
  go_upto_region 4 with (refine wpl_store_row rfl 37 (.tmp 8) (.tmp 51) rfl rfl w1.heap.size sP.cells rfl rfl 37 _ (new_at _ _) rfl (st_one _) (by kernel_rfl) ?_; intro V1 hq1 mq1)
  have M1 : Hid (Mod (fun _ => False) W V1) := (m1.alloc _).trans' mq1 fun k hk e => by have := m1.size; omega
  have HQ1 : Hid (V1.heap[w1.heap.size]? = some (stO sP)) := hq1
  have d1 := keepN M1.out c1
  have hBW := HB.out V1 M1.out
  clear m1 hq1 mq1
  generalize w1.heap.size = a1 at *
  go_wp2_with fail
  refine hBW.mono ?_
  rintro e w2 ⟨rfl, m2⟩
  clear hBW d1
  go_upto_region 5 with (refine wpl_store_row rfl 37 (.tmp 10) (.tmp 58) rfl rfl w2.heap.size sU.cells rfl rfl 37 _ (new_at _ _) rfl (st_one _) (by kernel_rfl) ?_; intro V2 hq2 mq2)
  have m3 : Mod (fun _ => False) V1 V2 := (m2.alloc _).trans' mq2 fun k hk e => by have := m2.size; omega
  have M2 : Hid (Mod (fun _ => False) W V2) := M1.out.trans m3
  have HQ2 : Hid (V2.heap[w2.heap.size]? = some (stO sU)) := hq2
  have HQ3 : Hid (V2.heap[a1]? = some (stO sP)) := (m3.block _ (lt_of HQ1.out) (fun x => x)).trans HQ1.out
  have d1 := keepN M2.out c1
  have hCW := HC.out V2 M2.out
  have hDW := HD.out V2 M2.out
  clear m2 hq2 mq2 m3 HQ1
  generalize w2.heap.size = a2 at *
  go_wp2_with fail
  refine hCW.mono ?_
  rintro e w3 ⟨rfl, rfl⟩
  clear hCW
  go_wp2_with fail
  refine hDW.mono ?_
  rintro e w4 ⟨rfl, rfl⟩
  clear hDW
  obtain ⟨be, hbe⟩ : ∃ x, decide (eP = eU) = x := ⟨_, rfl⟩
  have t1 : (eP == eU) = be := by rw [← hbe, Bool.eq_iff_iff]; simp
  obtain ⟨bf, hbf⟩ : ∃ x, decide (fP = fU) = x := ⟨_, rfl⟩
  have t2 : (fP == fU) = bf := by rw [← hbf, Bool.eq_iff_iff]; simp
  obtain ⟨bp, hbp⟩ : ∃ x, decide (pP = pU) = x := ⟨_, rfl⟩
  have t3 : ((pP : Int) == (pU : Int)) = bp := by rw [← hbp, Bool.eq_iff_iff]; simp; omega
  have t3' : (pP == pU) = bp := by rw [← hbp, Bool.eq_iff_iff]; simp
  obtain ⟨bs, hbs⟩ : ∃ x, eqS sP sU = x := ⟨_, rfl⟩
  have hne : ∀ X, (binOp .eql 37 (.agg sP.cells.toArray) (.agg sU.cells.toArray)).run Tryz.prog X = .ok (.bool bs) X := fun X => by rw [← hbs]; exact eql_any sP sU X
  have HV : Hid (T = U → be = true ∧ bs = true ∧ bp = true ∧ bf = true) := fun e => by
    obtain ⟨e1, e2, e3, e4⟩ := HEQ.out e
    rw [← hbe, ← hbs, ← hbp, ← hbf, e1, e2, e3, e4]
    exact ⟨by simp, (eqS_iff _ _).2 rfl, by simp, by simp⟩
  have hr1 : V2.rangeAt a1 0 sP.cells := st_rng HQ3.out
  have hr2 : V2.rangeAt a2 0 sU.cells := st_rng HQ2.out
  have hl1 := st_len sP
  have hl2 := st_len sU
  clear hbe hbf hbp hbs HEQ HST HSU
  cases be with
  | false =>
    go_wp2
    go_ret2
    exact HF.out _ _ (fun e => by have := (HV.out e).1; cases this) M2.out
  | true =>
  cases bs with
  | false =>
    go_wp2_with (first | refine wpList_load_guard 37 (.tmp 8) rfl (by rfl) a1 0 rfl sP.cells _ hr1 Tryz.underlying37 rfl (by kernel_rfl) ?_ | refine wpList_load_guard 37 (.tmp 10) rfl (by rfl) a2 0 rfl sU.cells _ hr2 Tryz.underlying37 rfl (by kernel_rfl) ?_)
    go_ret2
    exact HF.out _ _ (fun e => by have := (HV.out e).2.1; cases this) M2.out
  | true =>
  cases bp with
  | false =>
    go_wp2_with (first | refine wpList_load_guard 37 (.tmp 8) rfl (by rfl) a1 0 rfl sP.cells _ hr1 Tryz.underlying37 rfl (by kernel_rfl) ?_ | refine wpList_load_guard 37 (.tmp 10) rfl (by rfl) a2 0 rfl sU.cells _ hr2 Tryz.underlying37 rfl (by kernel_rfl) ?_)
    go_ret2
    exact HF.out _ _ (fun e => by have := (HV.out e).2.2.1; cases this) M2.out
  | true =>
    go_wp2_with (first | refine wpList_load_guard 37 (.tmp 8) rfl (by rfl) a1 0 rfl sP.cells _ hr1 Tryz.underlying37 rfl (by kernel_rfl) ?_ | refine wpList_load_guard 37 (.tmp 10) rfl (by rfl) a2 0 rfl sU.cells _ hr2 Tryz.underlying37 rfl (by kernel_rfl) ?_)
    go_ret2
    exact HF.out _ _ (fun e => (HV.out e).2.2.2) M2.out
set_option maxHeartbeats 8000000 in
set_option maxRecDepth 100000 in
theorem st_list (h : TwoT w ρ G b b' cnt T U) (s : SpM) (hd : s.dof = 5) (hs : s.Ok) {W0 : World} (hBs : Bse W0 w ρ G) :
    Calls Tryz.prog 16 #[.pointer (some ⟨b, 0, none⟩), .pointer (some ⟨b', 0, none⟩), .agg s.cells.toArray] w (SPost b b' cnt T U ρ G s w) := by
  obtain ⟨W, hW⟩ : ∃ W, w.alloc (.cells s.cells.toArray 44) = W := ⟨_, rfl⟩
  have hS : W.heap[w.heap.size]? = some (.cells s.cells.toArray 44 (0, 0)) := by subst hW; exact new_at _ _
  have m0 : Mod (fun _ => False) w W := by subst hW; exact (Mod.refl _ w).alloc _
  obtain ⟨h0, k0⟩ := h.do0 m0
  have hBs0 := hBs.step k0
  have hT0 := hBs0.tabs
  have hBn : w.heap.size < W.heap.size ∧ ¬ Foot ρ w.heap.size ∧ ¬ G w.heap.size := ⟨lt_of hS, (h.out (Nat.le_refl _)).1, (h.out (Nat.le_refl _)).2⟩
  have c0 : W.cell? ⟨w.heap.size, 0, none⟩ = some (.int .i64 (5)) := by rw [← hd]; exact (cell_of hS 0).trans rfl
  have c1 : W.cell? ⟨w.heap.size, 1, none⟩ = some (.int .u64 s.path) := (cell_of hS 1).trans rfl
  obtain ⟨⟨lP, eP⟩, hX⟩ : ∃ x : List St × Int, listT T s.path = x := ⟨_, rfl⟩
  obtain ⟨⟨lU, eU⟩, hY⟩ : ∃ x : List St × Int, listT U s.path = x := ⟨_, rfl⟩
  have HST : Hid (stepT T s = (T, eP)) := by
    show _ = _
    have e2 : eP = (listT T s.path).2 := by rw [hX]
    rw [e2]; unfold stepT; rw [hd]; rfl
  have HSU : Hid (stepT U s = (U, eU)) := by
    show _ = _
    have e2 : eU = (listT U s.path).2 := by rw [hY]
    rw [e2]; unfold stepT; rw [hd]; rfl
  have HEQ : Hid (T = U → lP = lU ∧ eP = eU) := by
    intro e
    subst e
    have h3 := hX.symm.trans hY
    injection h3 with a1 a2
    exact ⟨a1, a2⟩
  have hlP : lP.length ≤ 1000000 := by have := listT_len h0.wfT s.path; rw [hX] at this; exact this
  have hlU : lU.length ≤ 1000000 := by have := listT_len h0.wfU s.path; rw [hY] at this; exact this
  have hAW : Calls Tryz.prog 31 #[.pointer (some ⟨b, 0, none⟩), .int .u64 s.path] W fun e w' => ∃ v, e = .returned (.tuple #[v, .int .i64 eP]) ∧ RecsAt St.cells 13 w' (W.heap.size ≤ ·) v lP ∧ Mod (fun _ => False) W w' := by
    obtain ⟨mb, am, vk, hP⟩ := h0.p
    have := plist_any hP h0.wfT s.path hs.path
    rw [hX] at this
    exact this
  have hB : ∀ X, Mod (fun _ => False) W X → Calls Tryz.prog 42 #[.pointer (some ⟨b', 0, none⟩), .int .u64 s.path] X fun e w' => ∃ v, e = .returned (.tuple #[v, .int .i64 eU]) ∧ RecsAt St.cells 13 w' (X.heap.size ≤ ·) v lU ∧ Mod (fun _ => False) X w' := fun X hm => by
    obtain ⟨g, cap, vks, hR⟩ := (h0.do0 hm).1.r
    have := rList_any b' g cap U vks s.path X hR.rv h0.wfU
    rw [hY] at this
    exact this
  have HF : Hid (∀ v X, (T = U → v = true) → Mod (fun _ => False) W X → SPost b b' cnt T U ρ G s w (.returned (.tuple #[.int .i64 eP, .bool v])) X) := fun v X hv hm => by
    obtain ⟨h5, k5⟩ := h0.do0 hm
    refine ⟨v, ρ, G, by rw [HST.out], hv, ?_, k0.trans k5⟩
    rw [HST.out, HSU.out]
    exact h5.mono (Nat.le_succ _)
  have HB := Lib.hid hB
  have HS := Lib.hid hS
  clear hX hY h0 k0 m0 hS hBn h hBs hBs0 hT0 hd hB
  go_enter Tryz.func16, Tryz.ntmps16
  go_wp2_with fail
  refine hAW.mono ?_
  rintro e w1 ⟨v1, rfl, hr1, m1⟩
  clear hAW hW
  have M1 := Lib.hid m1
  have HR1 := Lib.hid (hr1.imp (Q := fun _ => True) fun _ _ => trivial)
  have d1 := keepN m1 c1
  have hBW := HB.out w1 m1
  clear m1 hr1
  go_wp2_with fail
  refine hBW.mono ?_
  rintro e w2 ⟨v2, rfl, hr2, m2⟩
  have M2 : Hid (Mod (fun _ => False) W w2) := M1.out.trans m2
  have hSs := stats_any v1 v2 lP lU w2 (HR1.out.mod m2 fun _ _ _ x => x) (hr2.imp fun _ _ => trivial) hlP hlU
  clear hBW d1 m2 hr2 HR1 M1
  obtain ⟨be, hbe⟩ : ∃ x, decide (eP = eU) = x := ⟨_, rfl⟩
  have t1 : (eP == eU) = be := by rw [← hbe, Bool.eq_iff_iff]; simp
  have HV : Hid (T = U → be = true) := fun e => by
    obtain ⟨e1, e2⟩ := HEQ.out e
    rw [← hbe, e2]; simp
  clear hbe HST HSU
  cases be with
  | false =>
    clear hSs
    go_wp2
    go_ret2
    exact HF.out _ _ (fun e => by have := HV.out e; cases this) M2.out
  | true =>
    go_wp2_with fail
    refine hSs.mono ?_
    rintro e w3 ⟨v, rfl, hv, m3⟩
    have HV2 := Lib.hid hv
    have M3 : Hid (Mod (fun _ => False) W w3) := M2.out.trans m3
    clear hSs hv m3
    go_wp2
    go_ret2
    exact HF.out _ _ (fun e => HV2.out (HEQ.out e).1) M3.out
end
end Go.Proofs.YtkcnbbjmkkaolaaGreatDoor
namespace Go.Proofs.YtkcnbbjmkkaolaaGreatDoor
open Go.RowKit

theorem step_any {w : World} {ρ : Nat → Role} {G : Nat → Prop} {b b' cnt : Nat} {T U : Tr} (h : TwoT w ρ G b b' cnt T U) (s : SpM) (hs : s.Ok) (hl : s.Lt) {W0 : World} (hBs : Bse W0 w ρ G) (hc : cnt < 1000000) (hlT : T.last + 1 < 18446744073709551616) (hlU : U.last + 1 < 18446744073709551616) :
    Calls Tryz.prog 16 #[.pointer (some ⟨b, 0, none⟩), .pointer (some ⟨b', 0, none⟩), .agg s.cells.toArray] w (SPost b b' cnt T U ρ G s w) := by
  by_cases d0 : s.dof = 0
  · exact st_stat h s d0 hs hBs
  by_cases d1 : s.dof = 1
  · exact st_walk h s d1 hs hl hBs
  by_cases d2 : s.dof = 2
  · exact st_open h s d2 hs hl hBs
  by_cases d3 : s.dof = 3
  · exact st_create h s d3 hs hl hBs hc hlT hlU
  by_cases d4 : s.dof = 4
  · exact st_read h s d4 hs hBs
  by_cases d5 : s.dof = 5
  · exact st_list h s d5 hs hBs
  by_cases d6 : s.dof = 6
  · exact st_write h s d6 hs hl hBs
  by_cases d7 : s.dof = 7
  · exact st_remove h s d7 hs hl hBs
  exact st_wstat h s d0 d1 d2 d3 d4 d5 d6 d7 hs hl hBs
end Go.Proofs.YtkcnbbjmkkaolaaGreatDoor
