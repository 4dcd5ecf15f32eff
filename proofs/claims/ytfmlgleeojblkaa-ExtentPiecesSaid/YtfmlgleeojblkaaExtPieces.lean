/-
  PROVED HERE: for all extents x and ints off, n, stop the law ExtentPieces returns true: a range's pieces are just those of the document. No conditions.
-/
import Derived.Test.YtfmlgleeojblkaaLawExt
import Derived.Test.YtfmlgleeojblkaaExtAlive
import Derived.Test.YtfmlgleeojblkaaExtRef
import Derived.Test.YtfmlgleeojblkaaRegionHold
namespace Go.Proofs.Ytfmlgleeojblkaa.extentPieces
open Go.ChangeShapes Go.WideShapes Go.ChangeAt Go.RowKit Go.Shelf
attribute [local go_sem] Oper.semAt_some

theorem _root_.Go.Proofs.Ytfmlgleeojblkaa.PRow.modL {W W' : World} {v : Value} {l : List Pc} {S : Nat → Prop} (h : PRow W v l) (hm : Mod S W W') (hS : ∀ k, k < W.heap.size → ¬ S k) : PRow W' v l := by
  obtain ⟨a, cap, hv, hc⟩ := h
  refine ⟨a, cap, hv, fun i hi => ?_⟩
  obtain ⟨g, ha, hg, h0, h1, h2, h3⟩ := hc i hi
  have hb := hm.block g hg (hS g hg)
  exact ⟨g, ha, Nat.lt_of_lt_of_le hg hm.size, (World.cell?_of_block (a := ⟨g, i * 4, none⟩) hb).trans h0, (World.cell?_of_block (a := ⟨g, i * 4 + 1, none⟩) hb).trans h1, (World.cell?_of_block (a := ⟨g, i * 4 + 2, none⟩) hb).trans h2, (World.cell?_of_block (a := ⟨g, i * 4 + 3, none⟩) hb).trans h3⟩

theorem lt_some {W : World} {D : Nat} {o : Obj} (h : W.heap[D]? = some o) : D < W.heap.size := (Array.getElem?_eq_some_iff.1 h).1
theorem piece_ne (x y : Pc) (h : x ≠ y) (w : World) : (binOp BinOp.neq 31 x.v y.v).run Try.prog w = .ok (.bool true) w := by
  obtain ⟨xb, xf, xt, xa⟩ := x
  obtain ⟨yb, yf, yt, ya⟩ := y
  simp only [ne_eq, Pc.mk.injEq] at h
  simp [go_sem, Pc.v]
  intro h1 h2 h3 h4
  exact h ⟨h1, by omega, by omega, by omega⟩

set_option maxRecDepth 100000 in
set_option maxHeartbeats 2000000 in
theorem walk (X c off n stop : Int) (hX : I64 X) (hc : I64 c) (w : World) : Calls Try.prog 3 #[.agg #[.int .i64 X, .int .i64 c], .int .i64 off, .int .i64 n, .int .i64 stop] w fun e w' => e = .returned (.bool true) ∧ Mod (fun _ => False) w w' := by
  have fnil := func_nil
  refine (callsIn_wide (n := 6)).1 ?_
  refine callsIn_of_wp_marks Try.func3 rfl trivial ?_ rfl
  simp only [Try.ntmps3, List.size_toArray, List.length_cons, List.length_nil, Nat.reduceAdd, Nat.reduceSub, Array.replicate_succ, Array.replicate_zero, List.push_toArray, List.append_toArray, List.nil_append, List.cons_append]
  gi_wp2_with fail
  refine ⟨trivial, (callsIn_wide.2 (Pieces_any _ _ _ _ _)).mono ?_⟩
  rintro e w' ⟨rfl, rfl⟩
  obtain ⟨W0, hW0⟩ : ∃ W0, (((((w.alloc (.cells #[.int .i64 X, .int .i64 c] 23)).alloc (.cells #[.int .i64 stop] 3)).alloc (.cells #[.bool false] 4)).alloc (.cells #[.int .i64 X, .int .i64 c] 23)).alloc (.cells #[.int .i64 off] 3)).alloc (.cells #[.int .i64 n] 3) = W0 := ⟨_, rfl⟩
  have hm0 : Mod (fun _ => False) w W0 := by subst hW0; exact ((((((Mod.refl _ w).alloc _).alloc _).alloc _).alloc _).alloc _).alloc _
  have bx0 : W0.heap[w.heap.size]? = some (.cells #[.int .i64 X, .int .i64 c] 23 (0, 0)) := by
    subst hW0; exact alloc_keep (alloc_keep (alloc_keep (alloc_keep (alloc_keep (new_at _ _)))))
  have bs0 : W0.heap[w.heap.size + 1]? = some (.cells #[.int .i64 stop] 3 (0, 0)) := by
    subst hW0; exact alloc_keep (alloc_keep (alloc_keep (alloc_keep (new_at' _ _ _ (by simp)))))
  have br0 : W0.heap[w.heap.size + 1 + 1]? = some (.cells #[.bool false] 4 (0, 0)) := by
    subst hW0; exact alloc_keep (alloc_keep (alloc_keep (new_at' _ _ _ (by simp))))
  have hs0 : W0.heap.size = w.heap.size + 6 := by subst hW0; simp
  have x0 : W0.cell? ⟨w.heap.size, 0, none⟩ = some (.int .i64 X) := (cell_of bx0 0).trans rfl
  have x1 : W0.cell? ⟨w.heap.size, 1, none⟩ = some (.int .i64 c) := (cell_of bx0 1).trans rfl
  gi_wp2_with fail
  refine ⟨trivial, (callsIn_wide.2 (collect_any X c off n hX hc W0)).mono ?_⟩
  rintro e W1 ⟨v, rfl, hrow, m1⟩
  clear x0 x1 hW0
  obtain ⟨la, lcap, rfl, hcl⟩ := PRow.of_owns hrow
  have hpr1 : PRow W1 (.slice la (piecesT X c off n).length lcap) (piecesT X c off n) := ⟨la, lcap, rfl, hcl⟩
  have hT17 := piecesT_len X c off n
  have hcol := fun W => collect_any X c off n hX hc W
  have hrp := fun W => rpieces_any X c off n W
  have hPs := fun (Bx Bo Bn L : Nat) => pieces_stops (6 - 1) Bx Bo Bn L X c off n hX hc
  revert hrow hpr1 hT17 hcol hrp hPs
  obtain ⟨T, hT⟩ : ∃ T, piecesT X c off n = T := ⟨_, rfl⟩
  rw [hT]
  intro hrow hpr1 hT17 hcol hrp hPs
  clear hcl
  obtain ⟨W2, hW2⟩ : ∃ W2, W1.alloc (.cells #[.slice la T.length lcap] 27) = W2 := ⟨_, rfl⟩
  have m2 : Mod (fun _ => False) W1 W2 := by subst hW2; exact (Mod.refl _ W1).alloc _
  have hM2 : Hid (Mod (fun _ => False) w W2) := (hm0.trans m1).trans m2
  have bx2 := Lib.hid (((m1.trans m2).block _ (lt_of bx0) (fun x => x)).trans bx0)
  have bs2 := Lib.hid (((m1.trans m2).block _ (lt_of bs0) (fun x => x)).trans bs0)
  have br2 := Lib.hid (((m1.trans m2).block _ (lt_of br0) (fun x => x)).trans br0)
  have bl2 : Hid (W2.heap[W1.heap.size]? = some (.cells #[.slice la T.length lcap] 27 (0, 0))) := by subst hW2; exact new_at _ _
  have pr2 := Lib.hid (hpr1.mod m2)
  have hs1 : w.heap.size + 6 ≤ W1.heap.size := by have := m1.size; omega
  clear hrow hpr1 m1 m2 bx0 bs0 br0 hm0 hs0
  gi_wp2
  have hSk : ∀ A B, ((A : World).cell? ⟨W1.heap.size, 0, none⟩ = some (.slice la T.length lcap) ∧ A.cell? ⟨w.heap.size, 0, none⟩ = some (.int .i64 X) ∧ A.cell? ⟨w.heap.size, 1, none⟩ = some (.int .i64 c) ∧ Mod (fun _ => False) W2 A) → Mod (fun _ => False) A B →
    (B.cell? ⟨W1.heap.size, 0, none⟩ = some (.slice la T.length lcap) ∧ B.cell? ⟨w.heap.size, 0, none⟩ = some (.int .i64 X) ∧ B.cell? ⟨w.heap.size, 1, none⟩ = some (.int .i64 c) ∧ Mod (fun _ => False) W2 B) := by
    rintro A B ⟨h1, h2, h3, h4⟩ hm
    have g1 := hm.below.cell (block_lt_of_cell h1)
    have g2 := hm.below.cell (block_lt_of_cell h2)
    have g3 := hm.below.cell (block_lt_of_cell h3)
    exact ⟨g1.trans h1, g2.trans h2, g3.trans h3, h4.trans hm⟩
  have hS0 : ((W2.drew).cell? ⟨W1.heap.size, 0, none⟩ = some (.slice la T.length lcap) ∧ W2.drew.cell? ⟨w.heap.size, 0, none⟩ = some (.int .i64 X) ∧ W2.drew.cell? ⟨w.heap.size, 1, none⟩ = some (.int .i64 c) ∧ Mod (fun _ => False) W2 W2.drew) :=
    ⟨(cell_of bl2.out 0).trans rfl, (cell_of bx2.out 0).trans rfl, (cell_of bx2.out 1).trans rfl, (Mod.refl _ W2).drew⟩
  refine wpIn_onlyN ?_
  go_region_held (fun w' => w'.cell? ⟨W1.heap.size, 0, none⟩ = some (.slice la T.length lcap) ∧ w'.cell? ⟨w.heap.size, 0, none⟩ = some (.int .i64 X) ∧ w'.cell? ⟨w.heap.size, 1, none⟩ = some (.int .i64 c) ∧ Mod (fun _ => False) W2 w') (first | exact hS0 | exact hSk _ _ (by assumption) (by assumption)) (first
    | (go_at_call 10; refine (hrp _).mono ?_; rintro e W3 ⟨u, rfl, hrA, m3⟩)
    | (go_at_call 8; refine (hcol _).mono ?_; rintro e W4 ⟨u2, rfl, hrB, m4⟩)
    | (go_at_call 9; first
      | (refine (same_any _ _ T hT17 _ (PRow.of_owns hrB) (pr2.out.mod (And.right (And.right (And.right (by assumption)))))).mono ?_; rintro e W5 ⟨rfl, m5⟩)
      | (refine (same_any _ _ T hT17 _ (pr2.out.mod (And.right (And.right (And.right (by assumption))))) (PRow.of_ownA hrA)).mono ?_; rintro e W6 ⟨rfl, m6⟩)))
  refine onlyN_out ?_
  rename_i hHeld
  have M5 := hHeld.2.2.2
  have bx5 := (M5.block _ (lt_of bx2.out) (fun x => x)).trans bx2.out
  have bs5 := (M5.block _ (lt_of bs2.out) (fun x => x)).trans bs2.out
  have br5 := (M5.block _ (lt_of br2.out) (fun x => x)).trans br2.out
  have bl5 := (M5.block _ (lt_of bl2.out) (fun x => x)).trans bl2.out
  have pr5 := pr2.out.mod M5
  have hM5 : Mod (fun _ => False) w W5 := hM2.out.trans M5
  have hl5 := lt_of bl5
  clear hHeld M5 bx2 bs2 br2 bl2 pr2 hM2 hcol hrp hSk hS0 hrA m3 m6 hrB m4 m5 hW2
  clear W2 W3 W6 W4
  obtain ⟨L, hL⟩ : ∃ L, W5.heap.size = L := ⟨_, rfl⟩
  obtain ⟨W6, hW6⟩ : ∃ W6, W5.alloc (.cells #[.int .i64 0] 3) = W6 := ⟨_, rfl⟩
  have m6 : Mod (fun _ => False) W5 W6 := by subst hW6; exact (Mod.refl _ _).alloc _
  have bk6 : W6.heap[L]? = some (.cells #[.int .i64 0] 3 (0, 0)) := by subst hW6; subst hL; exact new_at _ _
  have bx6 := (m6.block _ (lt_of bx5) (fun x => x)).trans bx5
  have bs6 := (m6.block _ (lt_of bs5) (fun x => x)).trans bs5
  have br6 := (m6.block _ (lt_of br5) (fun x => x)).trans br5
  have bl6 := (m6.block _ (lt_of bl5) (fun x => x)).trans bl5
  have pr6 := pr5.mod m6
  have hM6 := hM5.trans m6
  have hs6 : W6.heap.size = L + 1 := by subst hW6; simp [hL]
  have x0 : W6.cell? ⟨w.heap.size, 0, none⟩ = some (.int .i64 X) := (cell_of bx6 0).trans rfl
  have x1 : W6.cell? ⟨w.heap.size, 1, none⟩ = some (.int .i64 c) := (cell_of bx6 1).trans rfl
  have k0 : W6.cell? ⟨L, 0, none⟩ = some (.int .i64 0) := (cell_of bk6 0).trans rfl
  have k1 : W6.frozen? ⟨L, 0, none⟩ = false := free_of bk6 0
  have k2 : W6.setCell ⟨L, 0, none⟩ (.int .i64 0) = W6 := by
    subst hW6; subst hL; simp [go_sem]
  clear bx5 bs5 br5 bl5 hM5
  gi_wp2
  have hP7 := Pieces_any X c off n W6
  rw [hs6] at hP7
  refine ⟨trivial, (callsIn_wide.2 hP7).mono ?_⟩
  rintro e w' ⟨rfl, rfl⟩
  obtain ⟨W7, hW7⟩ : ∃ W7, ((W6.alloc (.cells #[.int .i64 X, .int .i64 c] 23)).alloc (.cells #[.int .i64 off] 3)).alloc (.cells #[.int .i64 n] 3) = W7 := ⟨_, rfl⟩
  have m7 : Mod (fun _ => False) W6 W7 := by subst hW7; exact ((((Mod.refl _ W6).alloc _).alloc _).alloc _)
  have px7 : W7.heap[L + 1]? = some (.cells #[.int .i64 X, .int .i64 c] 23 (0, 0)) := by subst hW7; exact alloc_keep (alloc_keep (new_at' _ _ _ hs6.symm))
  have po7 : W7.heap[L + 2]? = some (.cells #[.int .i64 off] 3 (0, 0)) := by subst hW7; exact alloc_keep (new_at' _ _ _ (by simp [hs6]))
  have pn7 : W7.heap[L + 3]? = some (.cells #[.int .i64 n] 3 (0, 0)) := by subst hW7; exact new_at' _ _ _ (by simp [hs6])
  have hs7 : W7.heap.size = L + 4 := by subst hW7; simp [hs6]
  have bk7 : Boxed W7 L 3 (.int .i64 0) := (m7.block _ (by omega) (fun x => x)).trans bk6
  have bx7 := (m7.block _ (lt_of bx6) (fun x => x)).trans bx6
  have bs7 := (m7.block _ (lt_of bs6) (fun x => x)).trans bs6
  have br7 := (m7.block _ (lt_of br6) (fun x => x)).trans br6
  have bl7 := (m7.block _ (lt_of bl6) (fun x => x)).trans bl6
  have pr7 := pr6.mod m7
  have hM7 := hM6.trans m7
  rw [hW7]
  have m57 := m6.trans m7
  clear hP7 hW7 m7 pr7 bx6 bs6 br6 bl6 pr6 hM6 x0 x1 k0 k1 k2 bk6 m6 hW6 hs6
  gi_wp2
  refine wpIn_rangeFunc_ownH rfl (by decide) (gf := 29) (lb := #[.pointer (some ⟨L + 1, 0, none⟩), .pointer (some ⟨L + 1 + 1, 0, none⟩), .pointer (some ⟨L + 1 + 2, 0, none⟩)]) rfl trivial (enters_of Try.func29 (by kernel_rfl) rfl)
    (hPs (L + 1) (L + 2) (L + 3) L W7 px7 po7 pn7 (by rw [ownOf_boxed bk7]; rfl) (by omega) (by omega)) (fun h k => keepL_t h k) (keepL_b (by omega)) (Below.refl _ _) (fun _ => rfl)
    (fun pre W => Boxed W L 3 (.int .i64 pre.length) ∧ Mod (· = L) W7 W ∧ pre <+: T)
    (fun c pre W => pre <+: T → c = .exit 0 ∧ Mod (· = L) W7 W)
    (fun s A B row hs hg hr => ⟨hs.1.kept hg (fun e => by obtain ⟨h1, _⟩ := hr _ e.symm; omega), hs.2.1.trans' (Mod.of_grown hg) (fun k hk e => by obtain ⟨h1, _⟩ := hr k e.symm; omega), hs.2.2⟩)
    (fun cd s A B row hs hg hr hp => ⟨(hs hp).1, (hs hp).2.trans' (Mod.of_grown hg) (fun k hk e => by obtain ⟨h1, _⟩ := hr k e.symm; omega)⟩)
    ⟨bk7, Mod.refl _ _, List.nil_prefix⟩
    (fun x a' W => ∃ Bp, L < Bp ∧ W.heap[Bp]? = some (.cells x.cells.toArray 31 (0, 0)) ∧ a' = { tmps := #[.agg #[.int .i64 X, .int .i64 c], .int .i64 off, .int .i64 n, .int .i64 stop, .pointer (some ⟨w.heap.size, 0, none⟩), undef, undef, .pointer (some ⟨w.heap.size + 1, 0, none⟩), .pointer (some ⟨w.heap.size + 1 + 1, 0, none⟩), .pointer (some ⟨W1.heap.size, 0, none⟩), .pointer (some ⟨L, 0, none⟩), .pointer (some ⟨Bp, 0, none⟩), .agg #[.int .i64 X, .int .i64 c], .int .i64 off, .int .i64 n, .func (.func 29) #[] #[.pointer (some ⟨w.heap.size + 1 + 1 + 1, 0, none⟩), .pointer (some ⟨w.heap.size + 1 + 1 + 1 + 1, 0, none⟩), .pointer (some ⟨w.heap.size + 1 + 1 + 1 + 2, 0, none⟩)], .bool false, .agg #[.int .i64 X, .int .i64 c], .int .i64 off, .int .i64 n, .slice la T.length lcap, .slice la T.length lcap, .agg #[.int .i64 X, .int .i64 c], .int .i64 off, .int .i64 n, u, .bool true, .bool false, .bool false, .agg #[.int .i64 X, .int .i64 c], .int .i64 off, .int .i64 n, u2, .slice la T.length lcap, .bool true, .bool false, .bool false, .agg #[.int .i64 X, .int .i64 c], .int .i64 off, .int .i64 n, .func (.func 29) #[] #[.pointer (some ⟨L + 1, 0, none⟩), .pointer (some ⟨L + 1 + 1, 0, none⟩), .pointer (some ⟨L + 1 + 2, 0, none⟩)], x.v, undef, undef, undef, undef, undef, undef, undef, undef, undef, undef, undef, undef, undef, undef, undef, undef, undef, undef], defers := [] })
    (fun x a' s A B row hs hg hr => by
      obtain ⟨Bp, h1, h2, h3⟩ := hs
      refine ⟨Bp, h1, ?_, h3⟩
      rw [hg.block Bp (lt_of h2) (fun e => by obtain ⟨_, o, ho, hc⟩ := hr Bp e.symm; rw [h2] at ho; cases ho; cases hc)]
      exact h2)
    ?assign ?body ?done ?stop
  case assign =>
    rintro l pre x W K ⟨hv, hm, hp⟩ hK
    obtain ⟨xb, xf, xt, xa⟩ := x
    simp only [Pc.v]
    gi_wp2
    exact hK _ _ ((KeepsOthers.alloc _ _).from _) (keepL_alloc W _ hv.lt) ⟨hv.alloc _, hm.alloc _, hp⟩ ⟨W.heap.size, hv.lt, new_at _ _, rfl⟩
  case body =>
    rintro l pre x a' W hl ⟨r, hr⟩ ⟨hv, hm, hp⟩ ⟨Bp, hBp, hbp, rfl⟩ hlt
    have hpr := pr5.modL ((m57.mono (T := (· = L)) (fun _ _ x => x.elim)).trans hm) (fun k hk => by omega)
    have hle := hv.lt
    have hc := hv.cell
    have hf := hv.frozen
    have l0 : W.cell? ⟨W1.heap.size, 0, none⟩ = some (.slice la T.length lcap) := (cell_of ((hm.block _ (lt_of bl7) (fun e => by omega)).trans bl7) 0).trans rfl
    have s0 : W.cell? ⟨w.heap.size + 1, 0, none⟩ = some (.int .i64 stop) := (cell_of ((hm.block _ (lt_of bs7) (fun e => by omega)).trans bs7) 0).trans rfl
    have r0 : W.cell? ⟨w.heap.size + 1 + 1, 0, none⟩ = some (.bool false) := (cell_of ((hm.block _ (lt_of br7) (fun e => by omega)).trans br7) 0).trans rfl
    have r1 : W.frozen? ⟨w.heap.size + 1 + 1, 0, none⟩ = false := free_of ((hm.block _ (lt_of br7) (fun e => by omega)).trans br7) 0
    have hnp : ∀ aa W', ¬ (pre ++ [x] <+: T) → KeepsFrom W7.heap.size W W' → ownPostG W7.heap.size (KeepL L) (fun pre W => Boxed W L 3 (.int .i64 pre.length) ∧ Mod (· = L) W7 W ∧ pre <+: T) (fun c pre W => pre <+: T → c = .exit 0 ∧ Mod (· = L) W7 W) (pre ++ [x]) W Exit.ret aa W' := fun _ _ h1 h2 => ⟨h2, fun h => (h1 h).elim⟩
    by_cases hlt2 : pre.length < T.length
    · have t1 : decide (T.length ≤ pre.length) = false := by simp; omega
      obtain ⟨a', cap', hv', hcells⟩ := hpr
      cases hv'
      obtain ⟨g, rfl, hg, q0, q1, q2, q3⟩ := hcells pre.length hlt2
      obtain ⟨y, hy⟩ : ∃ y, T[pre.length] = y := ⟨_, rfl⟩
      rw [hy] at q0 q1 q2 q3
      obtain ⟨xb, xf, xt, xa⟩ := x
      obtain ⟨yb, yf, yt, ya⟩ := y
      simp only at q0 q1 q2 q3
      have p0 : W.cell? ⟨Bp, 0, none⟩ = some (.int .i64 xb) := (cell_of hbp 0).trans rfl
      have p1 : W.cell? ⟨Bp, 1, none⟩ = some (.int .i64 xf) := (cell_of hbp 1).trans rfl
      have p2 : W.cell? ⟨Bp, 2, none⟩ = some (.int .i64 xt) := (cell_of hbp 2).trans rfl
      have p3 : W.cell? ⟨Bp, 3, none⟩ = some (.int .i64 xa) := (cell_of hbp 3).trans rfl
      clear hcells hbp
      by_cases hxy : (⟨xb, xf, xt, xa⟩ : Pc) = ⟨yb, yf, yt, ya⟩
      · cases hxy
        have hp1 : pre ++ [⟨xb, xf, xt, xa⟩] <+: T := by
          obtain ⟨R, rfl⟩ := hp
          obtain ⟨z, R', rfl⟩ : ∃ z R', R = z :: R' := by
            cases R with
            | nil => simp at hlt2
            | cons z R' => exact ⟨z, R', rfl⟩
          simp at hy
          subst hy
          exact ⟨R', by simp⟩
        by_cases hst : ((pre.length : Int) + 1) = stop
        · have t3 : (((pre.length : Int) + 1) == stop) = true := by simp [hst]
          gi_wp2
          refine wpIn_region_quiet_round rfl (by kernel_rfl) (by kernel_rfl) (by kernel_rfl) ?_
          repeat (gi_big_quiet_step (fail))
          refine wpQuietIn_nil ?_
          intro _ hw'
          obtain ⟨nq, hw''⟩ := hw'
          subst hw''
          gi_wp2
          have hkL := (KeepsOthers.setCell (W.drewN nq) ⟨L, 0, none⟩ (.int .i64 (pre.length + 1))).from W7.heap.size
          have hvq : Boxed (W.drewN nq) L 3 (.int .i64 pre.length) := hv
          have hkK := keepL_set (v' := .int .i64 (pre.length + 1)) hvq rfl rfl
          rw [hst] at hkL
          exact ⟨⟨hkL.size, hkL.same⟩, fun _ => ⟨rfl, (hm.drewN nq).trans (Mod.set1 (W.drewN nq) L 0 _)⟩⟩
        · have t3 : (((pre.length : Int) + 1) == stop) = false := by simp [hst]
          gi_wp2
          refine wpIn_region_quiet_round rfl (by kernel_rfl) (by kernel_rfl) (by kernel_rfl) ?_
          repeat (gi_big_quiet_step (fail))
          refine wpQuietIn_nil ?_
          intro _ hw'
          obtain ⟨nq, hw''⟩ := hw'
          subst hw''
          gi_wp2
          have hkL := (KeepsOthers.setCell (W.drewN nq) ⟨L, 0, none⟩ (.int .i64 (pre.length + 1))).from W7.heap.size
          have hvq : Boxed (W.drewN nq) L 3 (.int .i64 pre.length) := hv
          have hkK := keepL_set (v' := .int .i64 (pre.length + 1)) hvq rfl rfl
          refine ⟨⟨hkL.size, hkL.same⟩, ⟨⟨hkK.mod.os, hkK.mod.tape, hkK.mod.output, hkK.mod.size, hkK.mod.block⟩, hkK.own⟩, ?_, (hm.drewN nq).trans (Mod.set1 (W.drewN nq) L 0 _), hp1⟩
          rw [List.length_append, List.length_singleton, Int.natCast_add]
          exact hvq.set _
      · have hne := piece_ne _ _ hxy
        simp only [Pc.v] at hne
        gi_wp2
        refine wpIn_region_quiet_round rfl (by kernel_rfl) (by kernel_rfl) (by kernel_rfl) ?_
        repeat (gi_big_quiet_step (fail))
        refine wpQuietIn_nil ?_
        intro _ hw'
        obtain ⟨nq, hw''⟩ := hw'
        subst hw''
        gi_wp2
        have hk' := (KeepsOthers.setCell (W.drewN nq) ⟨w.heap.size + 1 + 1, 0, none⟩ (.bool false)).from W7.heap.size
        refine hnp _ _ (fun h => hxy ?_) ⟨hk'.size, hk'.same⟩
        obtain ⟨R, hR⟩ := h
        subst hR
        have hy2 : (⟨xb, xf, xt, xa⟩ : Pc) = ⟨yb, yf, yt, ya⟩ := by simpa using hy
        exact hy2
    · have t1 : decide (T.length ≤ pre.length) = true := by simp; omega
      gi_wp2
      refine wpIn_region_quiet_round rfl (by kernel_rfl) (by kernel_rfl) (by kernel_rfl) ?_
      repeat (gi_big_quiet_step (fail))
      refine wpQuietIn_nil ?_
      intro _ hw'
      obtain ⟨nq, hw''⟩ := hw'
      subst hw''
      gi_wp2
      have hk' := (KeepsOthers.setCell (W.drewN nq) ⟨w.heap.size + 1 + 1, 0, none⟩ (.bool false)).from W7.heap.size
      exact hnp _ _ (fun h => by have := h.length_le; simp at this; omega) ⟨hk'.size, hk'.same⟩
  case done =>
    rintro D ys W hD rfl ⟨hv, hm, hp⟩ hK
    have hal := alive_any W
    have hby := (hm.block _ (lt_of br7) (fun e => by omega)).trans br7
    gi_wp2_with fail
    refine ⟨trivial, (callsIn_wide.2 hal).mono ?_⟩
    rintro e W9 ⟨rfl, m9⟩
    have hb9 := (m9.block _ (lt_of hby) (fun x => x)).trans hby
    have r0 : W9.cell? ⟨w.heap.size + 1 + 1, 0, none⟩ = some (.bool false) := (cell_of hb9 0).trans rfl
    have r1 : W9.frozen? ⟨w.heap.size + 1 + 1, 0, none⟩ = false := free_of hb9 0
    have hK9 := (m9.block _ (lt_some hK) (fun x => x)).trans hK
    gi_wp2
    have hK10 : (W9.setCell ⟨w.heap.size + 1 + 1, 0, none⟩ (.bool true)).heap[D]? = some (.deferred (some [])) := (Below.heap_setCell _ _ _ _ (by show D ≠ w.heap.size + 1 + 1; omega)).trans hK9
    have hb10 := heap_set hb9 0 (.bool true)
    have hb11 : ((W9.setCell ⟨w.heap.size + 1 + 1, 0, none⟩ (.bool true)).putObj D (.deferred none)).heap[w.heap.size + 1 + 1]? = some (.cells #[.bool true] 4 (0, 0)) := (World.putObj_heap_other (by omega)).trans hb10
    have r2 : ((W9.setCell ⟨w.heap.size + 1 + 1, 0, none⟩ (.bool true)).putObj D (.deferred none)).cell? ⟨w.heap.size + 1 + 1, 0, none⟩ = some (.bool true) := (cell_of hb11 0).trans rfl
    have hfin : Mod (fun _ => False) w ((W9.setCell ⟨w.heap.size + 1 + 1, 0, none⟩ (.bool true)).putObj D (.deferred none)) := ((((hM7.trans' hm (fun k hk e => by omega)).trans m9).trans' (Mod.set1 W9 _ 0 _) (fun k hk e => by omega))).thenGrown (grownBy_putObj' _ D (.deferred none)) (fun k e => by cases e; omega)
    refine ⟨by simp, .inl ⟨_, _, rfl, run_takeDeferred hK10, ?_⟩⟩
    refine ⟨_, ?_, rfl, hfin⟩
    simp [results, Try.f3, go_sem, r2]
  case stop =>
    rintro D cd pre W hD hpre hlen hK
    obtain ⟨rfl, hm⟩ := hlen hpre
    have hal := alive_any W
    have hby := (hm.block _ (lt_of br7) (fun e => by omega)).trans br7
    gi_wp2_with fail
    refine ⟨trivial, (callsIn_wide.2 hal).mono ?_⟩
    rintro e W9 ⟨rfl, m9⟩
    have hb9 := (m9.block _ (lt_of hby) (fun x => x)).trans hby
    have r0 : W9.cell? ⟨w.heap.size + 1 + 1, 0, none⟩ = some (.bool false) := (cell_of hb9 0).trans rfl
    have r1 : W9.frozen? ⟨w.heap.size + 1 + 1, 0, none⟩ = false := free_of hb9 0
    have hK9 := (m9.block _ (lt_some hK) (fun x => x)).trans hK
    gi_wp2
    have hK10 : (W9.setCell ⟨w.heap.size + 1 + 1, 0, none⟩ (.bool true)).heap[D]? = some (.deferred (some [])) := (Below.heap_setCell _ _ _ _ (by show D ≠ w.heap.size + 1 + 1; omega)).trans hK9
    have hb10 := heap_set hb9 0 (.bool true)
    have hb11 : ((W9.setCell ⟨w.heap.size + 1 + 1, 0, none⟩ (.bool true)).putObj D (.deferred none)).heap[w.heap.size + 1 + 1]? = some (.cells #[.bool true] 4 (0, 0)) := (World.putObj_heap_other (by omega)).trans hb10
    have r2 : ((W9.setCell ⟨w.heap.size + 1 + 1, 0, none⟩ (.bool true)).putObj D (.deferred none)).cell? ⟨w.heap.size + 1 + 1, 0, none⟩ = some (.bool true) := (cell_of hb11 0).trans rfl
    have hfin : Mod (fun _ => False) w ((W9.setCell ⟨w.heap.size + 1 + 1, 0, none⟩ (.bool true)).putObj D (.deferred none)) := ((((hM7.trans' hm (fun k hk e => by omega)).trans m9).trans' (Mod.set1 W9 _ 0 _) (fun k hk e => by omega))).thenGrown (grownBy_putObj' _ D (.deferred none)) (fun k e => by cases e; omega)
    refine ⟨by simp, .inl ⟨_, _, rfl, run_takeDeferred hK10, ?_⟩⟩
    refine ⟨_, ?_, rfl, hfin⟩
    simp [results, Try.f3, go_sem, r2]

set_option maxRecDepth 100000 in
theorem contract (H : Type) (enc : TypeId × Value → H) (W : World) (base : Nat) (args : Array Value) (ds gs : List (DataW H)) (before : List MemPlace)
    (hval : ∀ (j : Nat) t v, Try.f3.params[j]? = some t → args[j]? = some v → Value.okWide Try.prog W .any base t v)
    (hW : DataW.Whole enc Try.prog Try.f3.params.toList Rows.extentPiecesSpec.vars false W args.toList ds gs before) :
    Calls Try.prog 3 args W fun e W' => ∃ v, e = .returned v ∧ Rows.extentPiecesSpec.post enc Try.prog Try.f3 false true false false W args v W' := by
  have hW' := hW
  obtain ⟨p, q, hA0, hV, rfl, hfz, hnd⟩ := hW
  have hA : DataW.TrodAll enc Try.prog W 0 (fun _ => true) true Try.f3.params.toList args.toList ds p := hA0
  rw [Try.params3] at hA hval
  obtain ⟨v0, vs0, d0, ds0, p0, q0, hargs, rfl, rfl, h0, r0⟩ := trodAll_cons hA
  obtain ⟨v1, vs1, d1, ds1, p1, q1, rfl, rfl, rfl, h1, r1⟩ := trodAll_cons r0
  obtain ⟨v2, vs2, d2, ds2, p2, q2, rfl, rfl, rfl, h2, r2⟩ := trodAll_cons r1
  obtain ⟨v3, vs3, d3, ds3, p3, q3, rfl, rfl, rfl, h3, r3⟩ := trodAll_cons r2
  obtain ⟨rfl, rfl, rfl⟩ := trodAll_nil r3
  obtain rfl : args = #[v0, v1, v2, v3] := by cases args; simp_all
  obtain ⟨X, c, rfl, hX, hc⟩ := arg_ext (hval 0 23 v0 rfl rfl) h0
  obtain ⟨off, rfl, _, _, hmax1⟩ := open_int Try.underlying3 (hval 1 3 v1 rfl rfl) h1
  obtain ⟨n, rfl, _, _, hmax2⟩ := open_int Try.underlying3 (hval 2 3 v2 rfl rfl) h2
  obtain ⟨stop, rfl, _, _, hmax3⟩ := open_int Try.underlying3 (hval 3 3 v3 rfl rfl) h3
  clear hA0
  refine (walk X c off n stop hX hc W).mono fun e W' ⟨he, hg⟩ => ?_
  subst he
  exact ⟨_, rfl, law_post hW' hg (by kernel_rfl) rfl rfl rfl rfl rfl⟩

set_option maxRecDepth 100000 in
theorem lifted (os : Os) (started : os.Started) (H : Type) (enc : TypeId × Value → H) :
    ReturnsInHanded {} Try.checked os 3 .any (Rows.extentPiecesSpec.pre6 enc Try.prog Try.f3 Rows.extentPiecesRow.domain false) (Rows.extentPiecesSpec.post enc Try.prog Try.f3 false true false false) := by
  refine returnsInHanded_of_change (C := Try.checked) own_knob started (by kernel_rfl) Try.func3
    (ChangeSpec.witness6 (enc := enc) (C := Try.checked) false ⟨#[], #[.agg #[.int .i64 0, .int .i64 0], .int .i64 0, .int .i64 0, .int .i64 0], []⟩ 8 (by kernel_rfl) (by kernel_rfl) (by kernel_rfl) (by kernel_rfl)) ?_
  intro W base args ds gs before hval hW _ _
  exact contract H enc W base args ds gs before hval hW

theorem proved : Rows.ExtentPiecesSaid :=
  OpenClaim.holds_of_wide 3 Try.f3 rfl rfl rfl rfl rfl rfl rfl ⟨rfl, rfl, rfl, rfl, rfl⟩ rfl rfl rfl rfl rfl (by kernel_rfl) Try.func3 (by kernel_rfl)
    (of_decide_eq_true (by kernel_rfl)) (by unfold Func.isWrapper; first | (rw [if_pos (by decide +kernel)]; kernel_rfl) | (rw [if_neg (by decide +kernel)]; exact ⟨rfl, rfl⟩))
    (fun os started H enc _ => lifted os started H enc)
end Go.Proofs.Ytfmlgleeojblkaa.extentPieces
