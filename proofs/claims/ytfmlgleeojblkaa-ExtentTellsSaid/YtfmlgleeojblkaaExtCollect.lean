/- pieces: all that Pieces tells, in a row. -/
import Derived.Test.YtfmlgleeojblkaaExtSeq
import Derived.Maps.OwnIn
namespace Go.Proofs.Ytfmlgleeojblkaa
open Go.RowKit Go.Shelf
attribute [local go_sem] Oper.semAt_some

theorem pcs_len (X : Int) (off n : Nat) (h : off + n ≤ 7168) : ∀ k a, (pcs X off n k a).length ≤ 17 - (off + a) / 448
  | 0, a => Nat.zero_le _
  | k + 1, a => by
    unfold pcs
    by_cases ha : a < n
    · rw [if_pos ha, List.length_cons]
      obtain ⟨h1, h2, h3, h4⟩ := pcAt_step X off n a ha
      have ih := pcs_len X off n h k (a + ((pcAt X off n a).t - (pcAt X off n a).f))
      generalize a + ((pcAt X off n a).t - (pcAt X off n a).f) = a' at *
      rcases h4 with h4 | h4
      · subst h4
        have : (pcs X off a' k a').length = 0 := by cases k <;> simp [pcs]
        omega
      · omega
    · rw [if_neg ha]; exact Nat.zero_le _
theorem piecesT_len (X c off n : Int) : (piecesT X c off n).length ≤ 17 := by
  unfold piecesT
  by_cases h : okR X c off n = true
  · rw [if_pos h]
    simp only [okR, Bool.and_eq_true, decide_eq_true_eq] at h
    have := nblk_le c
    have := pcs_len X off.toNat n.toNat (by omega) (n.toNat + 1) 0
    omega
  · rw [if_neg h]; exact Nat.zero_le _

theorem info_piece : (Try.prog.info? 31).map (fun i => (i.zero, i.size, i.bytes)) = some (some (.agg #[.int .i64 0, .int .i64 0, .int .i64 0, .int .i64 0]), 4, 32) := by kernel_rfl
def Pc.cells (p : Pc) : List Value := [.int .i64 p.b, .int .i64 p.f, .int .i64 p.t, .int .i64 p.a]
def flat (l : List Pc) : List Value := l.flatMap Pc.cells

theorem func_nil (f : Fn) (a b : Array Value) (w : World) : (binOp BinOp.eql 25 (.func f a b) .nilFunc).run Try.prog w = .ok (.bool false) w := by
  have h := run_underlying (P := Try.prog) Try.underlying25
  obtain ⟨d, hd⟩ : ∃ d, Op.maxDepth = d + 1 := ⟨_, rfl⟩
  simp [binOp, Op.equal, hd, Op.equalIn, h]

theorem flat_snoc (l : List Pc) (x : Pc) : flat (l ++ [x]) = flat l ++ x.cells := by simp [flat]
theorem boxes8 (w : World) (o1 o2 o3 o4 o5 o6 o7 o8 : Obj) (W : World)
    (hW : ((((((((w.alloc o1).alloc o2).alloc o3).alloc o4).alloc o5).alloc o6).alloc o7).alloc o8) = W) :
    W.heap[w.heap.size + 1]? = some o2 ∧ W.heap[w.heap.size + 5]? = some o6 ∧ W.heap[w.heap.size + 6]? = some o7 ∧ W.heap[w.heap.size + 7]? = some o8 ∧ W.heap.size = w.heap.size + 8 ∧ Mod (fun _ => False) w W := by
  subst hW
  refine ⟨alloc_keep (alloc_keep (alloc_keep (alloc_keep (alloc_keep (alloc_keep (new_at' _ _ _ (by simp))))))), alloc_keep (alloc_keep (new_at' _ _ _ (by simp))), alloc_keep (new_at' _ _ _ (by simp)), new_at' _ _ _ (by simp), by simp, ?_⟩
  exact (((((((((Mod.refl _ w).alloc _).alloc _).alloc _).alloc _).alloc _).alloc _).alloc _).alloc _)
theorem ownOf_boxed {W : World} {L : Nat} {t : TypeId} {v : Value} (h : Boxed W L t v) : ownOf L W = v.ownBlock := by
  unfold ownOf; rw [h.cell]; rfl
theorem keepL_alloc {L : Nat} (W : World) (o : Obj) (hL : L < W.heap.size) : KeepL L W (W.alloc o) :=
  ⟨((Mod.refl (fun _ => False) W).alloc o).mono (fun _ _ x => x.elim), Or.inl (ownOf_block (Below.heap_alloc _ _ _ hL))⟩
theorem keepL_append {W w1 : World} {L base : Nat} {t e : TypeId} {size m : Nat} {v v' : Value} {ys : List Value} {o : Obj} (hv : Boxed W L t v) (hv2 : Boxed (w1.setCell ⟨L, 0, none⟩ v') L t v') (hr2 : (w1.setCell ⟨L, 0, none⟩ v').ownsRow base e size v' m ys)
    (hg : (W.alloc o).grownBy w1 v.ownBlock) (hblk : v'.ownBlock = v.ownBlock ∨ v'.ownBlock = some (W.alloc o).heap.size) : KeepL L W (w1.setCell ⟨L, 0, none⟩ v') := by
  have hm1 : Mod (fun k => some k = v.ownBlock) W w1 := ((Mod.refl (fun k => some k = v.ownBlock) W).alloc o).trans (Mod.of_grown hg)
  refine ⟨⟨hm1.os, hm1.tape, hm1.output, by simpa [World.setCell] using hm1.size, fun k hk hs => ?_⟩, ?_⟩
  · rw [Below.heap_setCell _ _ _ _ (fun e => hs (Or.inl e))]
    exact hm1.block k hk fun e => hs (Or.inr (Or.inl (by rw [ownOf_boxed hv]; exact e)))
  · rw [ownOf_boxed hv2, ownOf_boxed hv]
    rcases hblk with e | e
    · exact Or.inl e
    · exact Or.inr ⟨_, e, by rw [World.size_alloc]; omega, (hr2.lt _ e).2⟩

set_option maxRecDepth 100000 in
set_option maxHeartbeats 2000000 in
theorem collect_any (X c off n : Int) (hX : I64 X) (hc : I64 c) (w : World) :
    Calls Try.prog 8 #[.agg #[.int .i64 X, .int .i64 c], .int .i64 off, .int .i64 n] w fun e W' =>
      ∃ v, e = .returned v ∧ W'.ownsRow w.heap.size 31 4 v (piecesT X c off n).length (flat (piecesT X c off n)) ∧ Mod (fun _ => False) w W' := by
  obtain ⟨i0, hi, hz0, hz1, hz2⟩ := info_parts info_piece
  have fnil := func_nil
  refine (callsIn_wide (n := 6)).1 ?_
  refine callsIn_of_wp_marks Try.func8 rfl trivial ?_ rfl
  simp only [Try.ntmps8, List.size_toArray, List.length_cons, List.length_nil, Nat.reduceAdd, Nat.reduceSub, Array.replicate_succ, Array.replicate_zero, List.push_toArray, List.append_toArray, List.nil_append, List.cons_append]
  gi_wp2_with (refine ⟨trivial, ?_⟩; gi_at_call 7; refine (callsIn_wide.2 (Pieces_any _ _ _ _ _)).mono ?_; rintro e w' ⟨rfl, rfl⟩)
  obtain ⟨W0, hW0⟩ : ∃ W0, ((((((((w.alloc (.cells #[.int .i64 X, .int .i64 c] 23)).alloc (.cells #[.slice none 0 0] 27)).alloc (.cells #[.int .i64 X, .int .i64 c] 23)).alloc (.cells #[.int .i64 off] 3)).alloc (.cells #[.int .i64 n] 3)).alloc (.cells #[.int .i64 X, .int .i64 c] 23)).alloc (.cells #[.int .i64 off] 3)).alloc (.cells #[.int .i64 n] 3)) = W0 := ⟨_, rfl⟩
  obtain ⟨bL, bx, bo, bn, hsz, hM0⟩ := boxes8 _ _ _ _ _ _ _ _ _ _ hW0
  rw [hW0]
  clear hW0
  have hBL : Boxed W0 (w.heap.size + 1) 27 (.slice none 0 0) := bL
  refine wpIn_rangeFunc_ownH rfl (by decide) (gf := 29) (lb := #[.pointer (some ⟨w.heap.size + 1 + 1 + 1 + 1 + 1, 0, none⟩), .pointer (some ⟨w.heap.size + 1 + 1 + 1 + 1 + 1 + 1, 0, none⟩), .pointer (some ⟨w.heap.size + 1 + 1 + 1 + 1 + 1 + 2, 0, none⟩)]) rfl trivial (enters_of Try.func29 (by kernel_rfl) rfl)
    (pieces_stops (6 - 1) (w.heap.size + 5) (w.heap.size + 6) (w.heap.size + 7) (w.heap.size + 1) X c off n hX hc W0 bx bo bn (by rw [ownOf_boxed hBL]; rfl) (by omega) (by omega)) (fun h k => keepL_t h k) (keepL_b (by omega)) (Below.refl _ _) (fun _ => rfl)
    (fun pre W => (∃ v, Boxed W (w.heap.size + 1) 27 v ∧ W.ownsRow w.heap.size 31 4 v pre.length (flat pre) ∧ pre.length ≤ 40) ∧ Below w.heap.size w W)
    (fun _ pre _ => 40 < pre.length)
    (OwnFrom.and (Own.from (holdsRow_own w.heap.size (w.heap.size + 1) 27 31 4 (fun pre => pre.length) (fun pre => flat pre) (fun pre _ => pre.length ≤ 40)) _) (ownFrom_below (Nat.le_refl _) (by omega)))
    (fun _ => ownFrom_pure _ _)
    ⟨⟨_, hBL, World.ownsRow_nil _ _ _ _, Nat.zero_le _⟩, hM0.below⟩
    (fun x a' W => ∃ Bp, w.heap.size + 1 < Bp ∧ W.heap[Bp]? = some (.cells x.cells.toArray 31 (0, 0)) ∧ a' = { tmps := #[.agg #[.int .i64 X, .int .i64 c], .int .i64 off, .int .i64 n, .pointer (some ⟨w.heap.size, 0, none⟩), undef, undef, .slice none 0 0, .pointer (some ⟨w.heap.size + 1, 0, none⟩), .pointer (some ⟨Bp, 0, none⟩), .agg #[.int .i64 X, .int .i64 c], .int .i64 off, .int .i64 n,
      .func (.func 29) #[] #[.pointer (some ⟨w.heap.size + 1 + 1, 0, none⟩), .pointer (some ⟨w.heap.size + 1 + 1 + 1, 0, none⟩), .pointer (some ⟨w.heap.size + 1 + 1 + 2, 0, none⟩)], .bool false, .agg #[.int .i64 X, .int .i64 c], .int .i64 off, .int .i64 n,
      .func (.func 29) #[] #[.pointer (some ⟨w.heap.size + 1 + 1 + 1 + 1 + 1, 0, none⟩), .pointer (some ⟨w.heap.size + 1 + 1 + 1 + 1 + 1 + 1, 0, none⟩), .pointer (some ⟨w.heap.size + 1 + 1 + 1 + 1 + 1 + 2, 0, none⟩)], x.v, undef, undef, undef, undef, undef, undef, undef, undef], defers := [] })
    (fun x a' s A B row hs hg hr => by
      obtain ⟨Bp, h1, h2, h3⟩ := hs
      refine ⟨Bp, h1, ?_, h3⟩
      rw [hg.block Bp (lt_of h2) (fun e => by obtain ⟨_, o, ho, hc⟩ := hr Bp e.symm; rw [h2] at ho; cases ho; cases hc)]
      exact h2)
    ?assign ?body ?done ?stop
  case assign =>
    rintro l pre x W K ⟨⟨v, hv, hrow, hlen⟩, hB⟩ hK
    have hle := hv.lt
    obtain ⟨xb, xf, xt, xa⟩ := x
    simp only [Pc.v]
    gi_wp2
    exact hK _ _ ((KeepsOthers.alloc _ _).from _) (keepL_alloc W _ hv.lt) ⟨⟨v, hv.alloc _, hrow.alloc _, hlen⟩, hB.alloc (by omega) _⟩ ⟨W.heap.size, by omega, new_at _ _, rfl⟩
  case body =>
    rintro l pre x a' W hl ⟨r, hr⟩ ⟨⟨v, hv, hrow, hlen⟩, hB⟩ ⟨Bp, hBp, hbp, rfl⟩ hlt
    have hle := hv.lt
    have hc := hv.cell
    obtain ⟨xb, xf, xt, xa⟩ := x
    have p0 : W.cell? ⟨Bp, 0, none⟩ = some (.int .i64 xb) := (cell_of hbp 0).trans rfl
    have p1 : W.cell? ⟨Bp, 1, none⟩ = some (.int .i64 xf) := (cell_of hbp 1).trans rfl
    have p2 : W.cell? ⟨Bp, 2, none⟩ = some (.int .i64 xt) := (cell_of hbp 2).trans rfl
    have p3 : W.cell? ⟨Bp, 3, none⟩ = some (.int .i64 xa) := (cell_of hbp 3).trans rfl
    have hnews : ∀ j u, (Pc.cells ⟨xb, xf, xt, xa⟩)[j]? = some u → (W.alloc (.cells #[.int .i64 xb, .int .i64 xf, .int .i64 xt, .int .i64 xa] 31)).cell? ((⟨W.heap.size, 0, none⟩ : Addr).add j) = some u := by
      intro j u hj
      rw [show (⟨W.heap.size, 0, none⟩ : Addr).add j = ⟨W.heap.size, 0 + j, none⟩ from by unfold Addr.add; split <;> simp_all]
      rw [Nat.zero_add, cell_of (new_at W _)]
      simpa [Pc.cells] using hj
    have hone : ∀ u ∈ (Pc.cells ⟨xb, xf, xt, xa⟩), u.oneCell' = true := by
      intro u hu
      simp only [Pc.cells, List.mem_cons, List.not_mem_nil, or_false] at hu
      rcases hu with rfl | rfl | rfl | rfl <;> rfl
    gi_wp2_with (gi_at_builtin; (refine wpListIn_append_own_at _ rfl (.tmp 19) (.tmp 21) 27 rfl w.heap.size 31 i0 (.agg #[.int .i64 0, .int .i64 0, .int .i64 0, .int .i64 0]) 4 32 Try.underlying27 hi hz0 hz1 hz2 rfl (by decide) v pre.length (flat pre) rfl (hrow.alloc _) ⟨W.heap.size, 0, none⟩ 1 1 (Pc.cells ⟨xb, xf, xt, xa⟩) rfl rfl hnews hone (by unfold maxLen; omega) (by omega) (by rw [World.size_alloc]; omega) ?_); intro v' w2 hown' hgrow _ hblk; obtain ⟨g', cap', rfl⟩ := ownsRow_succ hown'; obtain ⟨hv1, hv2, hr2, hk2, hb2⟩ := hv.appended (by decide) hrow (by omega) (by omega) hown' hgrow; have hc1 := hv1.cell; have hf1 := hv1.frozen)
    · exact ⟨hk2.from _, by show 40 < _; rw [List.length_append, List.length_singleton]; omega⟩
    · exact ⟨hk2.from _, keepL_append hv hv2 hr2 hgrow hblk, ⟨⟨_, hv2, by rw [List.length_append, List.length_singleton, flat_snoc]; exact hr2, by rw [List.length_append, List.length_singleton]; omega⟩, hB.trans hb2⟩⟩
  case done =>
    rintro D ys W hD rfl ⟨⟨v, hv, hrow, hlen⟩, hB⟩ hK
    have hc := hv.cell
    gi_wp2
    refine ⟨by simp, .inl ⟨_, _, rfl, run_takeDeferred hK, ?_⟩⟩
    exact ⟨_, results_tmp rfl _ _ _, _, rfl, ownsRow_putObj hrow _ hK rfl, Mod.of_below (hB.trans (belowK_b (w := w) (Nat.le_refl _) W D _ _ (by omega) hK rfl rfl))⟩
  case stop =>
    rintro D cd pre W hD hpre hlen _
    have h1 := hpre.length_le
    have h2 := piecesT_len X c off n
    omega
end Go.Proofs.Ytfmlgleeojblkaa
