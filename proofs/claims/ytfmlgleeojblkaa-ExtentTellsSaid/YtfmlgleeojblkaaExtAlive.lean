/- What the extents' statements ask besides: a small known run. -/
import Derived.Test.YtfmlgleeojblkaaExtCollect
import Derived.Test.YtfmlgleeojblkaaExtFit
namespace Go.Proofs.Ytfmlgleeojblkaa
open Go.RowKit Go.Shelf
attribute [local go_sem] Oper.semAt_some

def T0 : Nat → Bool := fun _ => false
def T1 : Nat → Bool := putN T0 0 2 true
def T2 : Nat → Bool := putN T1 4 4 true
theorem al1 : takeR 10 T0 ((1 : Nat) : Int) = (((0 : Nat) : Int), 0, T1) := takeR_some 10 T0 1 (by decide) ⟨0, by decide⟩ (by decide +kernel)
theorem al2 : turnE 10 T1 ((0 : Nat) : Int) ((0 : Nat) : Int) true = 0 := by decide +kernel
theorem al2t : turnT 10 T1 ((0 : Nat) : Int) ((0 : Nat) : Int) true = T1 := by unfold turnT; rw [al2]; exact putN_zero T1 0 false
theorem al3 : takeR 10 T1 ((2 : Nat) : Int) = (((4 : Nat) : Int), 0, T2) := takeR_some 10 T1 2 (by decide) ⟨4, by decide⟩ (by decide +kernel)
theorem al4 : turnE 10 T2 ((0 : Nat) : Int) ((2 : Nat) : Int) true = 0 := by decide +kernel
theorem fit1 (b g : Nat) (W : World) (hW : BitsAt W b g 10 T0) : Calls Try.prog 15 #[.pointer (some ⟨b, 0, none⟩), .agg #[.int .i64 0, .int .i64 (-1)], .int .i64 500] W fun e w' =>
    e = .returned (.tuple #[.agg #[.int .i64 0, .int .i64 1], .int .i64 0]) ∧ BitsAt w' b g 10 T1 ∧ Mod (· = g) W w' := by
  have h := fit_grow b g 10 T0 T1 0 0 0 1 (-1) 500 W hW (by decide +kernel) (by decide) (by unfold I64'; decide) (by decide +kernel) (by decide) (by decide +kernel) (fun i hi => by omega) (by decide) al1 al2
  rw [al2t] at h
  exact h
theorem fit2 (b g : Nat) (W : World) (hW : BitsAt W b g 10 T1) : Calls Try.prog 15 #[.pointer (some ⟨b, 0, none⟩), .agg #[.int .i64 0, .int .i64 1], .int .i64 900] W fun e w' =>
    e = .returned (.tuple #[.agg #[.int .i64 4, .int .i64 2], .int .i64 0]) ∧ BitsAt w' b g 10 (turnT 10 T2 ((0 : Nat) : Int) ((2 : Nat) : Int) true) ∧ Mod (· = g) W w' :=
  fit_grow b g 10 T1 T2 0 2 4 2 1 900 W hW (by decide +kernel) (by decide) (by unfold I64'; decide) (by decide +kernel) (by decide) (by decide +kernel) (fun i hi => by unfold T1 putN; rw [if_pos (by omega)]) (by decide) al3 al4
def sumP (l : List Pc) : Int := l.foldl (fun s p => wrap64 (wrap64 (s + p.t) - p.f)) 0
theorem sumP_snoc (l : List Pc) (p : Pc) : sumP (l ++ [p]) = wrap64 (wrap64 (sumP l + p.t) - p.f) := by simp [sumP]
theorem al5 : sumP (piecesT 2 1 440 20) = 20 := by decide +kernel

theorem keepL_set {W : World} {L : Nat} {t : TypeId} {v v' : Value} (hv : Boxed W L t v) (h1 : v.ownBlock = none) (h2 : v'.ownBlock = none) : KeepL L W (W.setCell ⟨L, 0, none⟩ v') :=
  ⟨(Mod.set1 W L 0 v').mono (fun _ _ e => Or.inl e), Or.inl (by rw [ownOf_boxed hv, ownOf_boxed (hv.set v'), h1, h2])⟩

set_option maxRecDepth 100000 in
set_option maxHeartbeats 2000000 in
theorem alive_any (w : World) : Calls Try.prog 11 #[] w fun e w' => e = .returned (.bool true) ∧ Mod (fun _ => False) w w' := by
  have fnil := func_nil
  obtain ⟨b, hb⟩ : ∃ b, w.heap.size + 1 = b := ⟨_, rfl⟩
  obtain ⟨g, hg⟩ : ∃ g, w.heap.size = g := ⟨_, rfl⟩
  have hn := new_any 10 w (by decide) (by decide)
  rw [hb] at hn
  have hgl : w.heap.size ≤ g := by omega
  refine (callsIn_wide (n := 6)).1 ?_
  refine callsIn_of_wp_marks Try.func11 rfl trivial ?_ rfl
  simp only [Try.ntmps11, List.size_toArray, List.length_nil, Nat.reduceSub, Array.replicate_succ, Array.replicate_zero, List.push_toArray, List.append_toArray, List.nil_append, List.cons_append]
  gi_wp2_with fail
  refine ⟨trivial, (callsIn_wide.2 (class_any 449 _)).mono ?_⟩
  rw [show classR 449 = (1, 0) from by decide]
  rintro e w ⟨rfl, rfl⟩
  gi_wp2_with fail
  refine ⟨trivial, (callsIn_wide.2 (class_any 7169 _)).mono ?_⟩
  rw [show classR 7169 = (0, 4) from by decide]
  rintro e w ⟨rfl, rfl⟩
  gi_wp2_with fail
  refine ⟨trivial, (callsIn_wide.2 hn).mono ?_⟩
  rintro e w2 ⟨rfl, h2, m2⟩
  rw [hg] at h2
  have H2 : Hid (BitsAt w2 b g 10 T0) := h2
  have M2 := Lib.hid m2
  clear h2 m2 hn hb hg
  gi_wp2_with fail
  refine ⟨trivial, (callsIn_wide.2 (fit1 b g _ H2.out)).mono ?_⟩
  rintro e w3 ⟨rfl, h3, m3⟩
  have H3 := Lib.hid h3
  have M3 : Hid (Mod (fun _ => False) w w3) := M2.out.trans' m3 (fun k hk e => by omega)
  clear h3 m3
  obtain ⟨W3, hW3⟩ : ∃ W3, w3.alloc (.cells #[.int .i64 0, .int .i64 1] 23) = W3 := ⟨_, rfl⟩
  have HX3 : Hid (W3.heap[w3.heap.size]? = some (.cells #[.int .i64 0, .int .i64 1] 23 (0, 0))) := by subst hW3; exact new_at _ _
  have N3 : Hid (Mod (fun _ => False) w3 W3) := by subst hW3; exact (Mod.refl _ _).alloc _
  have x0 : W3.cell? ⟨w3.heap.size, 0, none⟩ = some (.int .i64 0) := (cell_of HX3.out 0).trans rfl
  have x1 : W3.cell? ⟨w3.heap.size, 1, none⟩ = some (.int .i64 1) := (cell_of HX3.out 1).trans rfl
  gi_wp2_with fail
  refine ⟨trivial, (callsIn_wide.2 (fit2 b g _ (H3.out.mod N3.out (fun x => x) (fun x => x)))).mono ?_⟩
  rintro e w4 ⟨rfl, h4, m4⟩
  clear x0 x1 hW3
  have HX4 : Hid (w4.heap[w3.heap.size]? = some (.cells #[.int .i64 0, .int .i64 1] 23 (0, 0))) := (m4.block _ (lt_of HX3.out) (fun e => by have := lt_of H3.out.hg; omega)).trans HX3.out
  have M4 : Hid (Mod (fun _ => False) w w4) := (M3.out.trans N3.out).trans' m4 (fun k hk e => by omega)
  clear h4 m4
  gi_wp2_with (refine ⟨trivial, ?_⟩; gi_at_call 7; refine (callsIn_wide.2 (Pieces_any _ _ _ _ _)).mono ?_; rintro e w' ⟨rfl, rfl⟩)
  obtain ⟨W0, hW0⟩ : ∃ W0, ((((((((w4.alloc (.cells #[.int .i64 4, .int .i64 2] 23)).alloc (.cells #[.int .i64 0] 3)).alloc (.cells #[.int .i64 2, .int .i64 1] 23)).alloc (.cells #[.int .i64 440] 3)).alloc (.cells #[.int .i64 20] 3)).alloc (.cells #[.int .i64 2, .int .i64 1] 23)).alloc (.cells #[.int .i64 440] 3)).alloc (.cells #[.int .i64 20] 3)) = W0 := ⟨_, rfl⟩
  obtain ⟨bL, bx, bo, bn, hsz, hM0⟩ := boxes8 _ _ _ _ _ _ _ _ _ _ hW0
  have by_ : W0.heap[w4.heap.size]? = some (.cells #[.int .i64 4, .int .i64 2] 23 (0, 0)) := by
    subst hW0; exact alloc_keep (alloc_keep (alloc_keep (alloc_keep (alloc_keep (alloc_keep (alloc_keep (new_at _ _)))))))
  rw [hW0]
  clear hW0
  have hBL : Boxed W0 (w4.heap.size + 1) 3 (.int .i64 0) := bL
  have hbxx := (hM0.block _ (lt_of HX4.out) (fun x => x)).trans HX4.out
  have hlt4 := lt_of HX4.out
  have hwm := M4.out.trans hM0
  refine wpIn_rangeFunc_ownH rfl (by decide) (gf := 29) (lb := #[.pointer (some ⟨w4.heap.size + 1 + 1 + 1 + 1 + 1, 0, none⟩), .pointer (some ⟨w4.heap.size + 1 + 1 + 1 + 1 + 1 + 1, 0, none⟩), .pointer (some ⟨w4.heap.size + 1 + 1 + 1 + 1 + 1 + 2, 0, none⟩)]) rfl trivial (enters_of Try.func29 (by kernel_rfl) rfl)
    (pieces_stops (6 - 1) (w4.heap.size + 5) (w4.heap.size + 6) (w4.heap.size + 7) (w4.heap.size + 1) 2 1 440 20 (by unfold I64; decide) (by unfold I64; decide) W0 bx bo bn (by rw [ownOf_boxed hBL]; rfl) (by omega) (by omega)) (fun h k => keepL_t h k) (keepL_b (by omega)) (Below.refl _ _) (fun _ => rfl)
    (fun pre W => Boxed W (w4.heap.size + 1) 3 (.int .i64 (sumP pre)) ∧ Mod (· = w4.heap.size + 1) W0 W)
    (fun _ _ _ => False)
    (fun s A B row hs hg hr => ⟨hs.1.kept hg (fun e => by obtain ⟨h1, _⟩ := hr _ e.symm; omega), hs.2.trans' (Mod.of_grown hg) (fun k hk e => by obtain ⟨h1, _⟩ := hr k e.symm; omega)⟩)
    (fun _ => ownFrom_pure _ _)
    ⟨hBL, Mod.refl _ _⟩
    (fun x a' W => ∃ Bp, w4.heap.size + 1 < Bp ∧ W.heap[Bp]? = some (.cells x.cells.toArray 31 (0, 0)) ∧ a' = { tmps := #[.bool false, .int .i64 1, .int .i64 0, .int .i64 0, .int .i64 4, .pointer (some ⟨b, 0, none⟩), .int .i64 0, .pointer (some ⟨w3.heap.size, 0, none⟩), .int .i64 0, .pointer (some ⟨w4.heap.size, 0, none⟩), .int .i64 0, .pointer (some ⟨w4.heap.size + 1, 0, none⟩), .pointer (some ⟨Bp, 0, none⟩), .tuple #[.int .i64 1, .int .i64 0], .tuple #[.int .i64 1, .int .i64 0], .int .i64 1, .int .i64 0, .tuple #[.int .i64 0, .int .i64 4], .tuple #[.int .i64 0, .int .i64 4], .int .i64 0, .int .i64 4, .tuple #[.pointer (some ⟨b, 0, none⟩), .int .i64 0], .tuple #[.pointer (some ⟨b, 0, none⟩), .int .i64 0], .pointer (some ⟨b, 0, none⟩), .int .i64 0, .tuple #[.agg #[.int .i64 0, .int .i64 1], .int .i64 0], .pointer (some ⟨b, 0, none⟩), .agg #[.int .i64 0, .int .i64 (-1)], .tuple #[.agg #[.int .i64 0, .int .i64 1], .int .i64 0], .agg #[.int .i64 0, .int .i64 1], .int .i64 0, .tuple #[.agg #[.int .i64 4, .int .i64 2], .int .i64 0], .pointer (some ⟨b, 0, none⟩), .agg #[.int .i64 0, .int .i64 1], .tuple #[.agg #[.int .i64 4, .int .i64 2], .int .i64 0], .agg #[.int .i64 4, .int .i64 2], .int .i64 0, .agg #[.int .i64 2, .int .i64 1], .func (.func 29) #[] #[.pointer (some ⟨w4.heap.size + 1 + 1, 0, none⟩), .pointer (some ⟨w4.heap.size + 1 + 1 + 1, 0, none⟩), .pointer (some ⟨w4.heap.size + 1 + 1 + 2, 0, none⟩)], .bool false, .agg #[.int .i64 2, .int .i64 1], .func (.func 29) #[] #[.pointer (some ⟨w4.heap.size + 1 + 1 + 1 + 1 + 1, 0, none⟩), .pointer (some ⟨w4.heap.size + 1 + 1 + 1 + 1 + 1 + 1, 0, none⟩), .pointer (some ⟨w4.heap.size + 1 + 1 + 1 + 1 + 1 + 2, 0, none⟩)], x.v, undef, undef, undef, undef, undef, undef, undef, undef, undef, undef, undef, undef, undef, undef, undef, undef, undef, undef, undef, undef, undef, undef, undef, undef, undef, undef, undef, undef, undef, undef, undef, undef, undef, undef, undef, undef, undef, undef, undef, undef, undef, undef, undef], defers := [] })
    (fun x a' s A B row hs hg hr => by
      obtain ⟨Bp, h1, h2, h3⟩ := hs
      refine ⟨Bp, h1, ?_, h3⟩
      rw [hg.block Bp (lt_of h2) (fun e => by obtain ⟨_, o, ho, hc⟩ := hr Bp e.symm; rw [h2] at ho; cases ho; cases hc)]
      exact h2)
    ?assign ?body ?done ?stop
  case assign =>
    rintro l pre x W K ⟨hv, hm⟩ hK
    obtain ⟨xb, xf, xt, xa⟩ := x
    simp only [Pc.v]
    gi_wp2
    exact hK _ _ ((KeepsOthers.alloc _ _).from _) (keepL_alloc W _ hv.lt) ⟨hv.alloc _, hm.alloc _⟩ ⟨W.heap.size, hv.lt, new_at _ _, rfl⟩
  case body =>
    rintro l pre x a' W hl ⟨r, hr⟩ ⟨hv, hm⟩ ⟨Bp, hBp, hbp, rfl⟩ hlt
    have hle := hv.lt
    have hc := hv.cell
    have hf := hv.frozen
    obtain ⟨xb, xf, xt, xa⟩ := x
    have p1 : W.cell? ⟨Bp, 1, none⟩ = some (.int .i64 xf) := (cell_of hbp 1).trans rfl
    have p2 : W.cell? ⟨Bp, 2, none⟩ = some (.int .i64 xt) := (cell_of hbp 2).trans rfl
    gi_wp2
    exact ⟨(KeepsOthers.setCell _ _ _).from _, keepL_set hv rfl rfl, ⟨by rw [sumP_snoc]; exact hv.set _, hm.trans (Mod.set1 W _ _ _)⟩⟩
  case done =>
    rintro D ys W hD rfl ⟨hv, hm⟩ hK
    have hc := hv.cell
    rw [al5] at hc
    have hby := (hm.block _ (lt_of by_) (fun e => by omega)).trans by_
    have hbx := (hm.block _ (lt_of hbxx) (fun e => by omega)).trans hbxx
    have x0 : W.cell? ⟨w3.heap.size, 0, none⟩ = some (.int .i64 0) := (cell_of hbx 0).trans rfl
    have x1 : W.cell? ⟨w3.heap.size, 1, none⟩ = some (.int .i64 1) := (cell_of hbx 1).trans rfl
    have y0 : W.cell? ⟨w4.heap.size, 0, none⟩ = some (.int .i64 4) := (cell_of hby 0).trans rfl
    have y1 : W.cell? ⟨w4.heap.size, 1, none⟩ = some (.int .i64 2) := (cell_of hby 1).trans rfl
    have hs4 := M4.out.size
    have hfin : Mod (fun _ => False) w (W.putObj D (.deferred none)) := (hwm.trans' hm (fun k hk e => by omega)).thenGrown (grownBy_putObj' W D (.deferred none)) (fun k e => by cases e; omega)
    gi_wp2_with fail
    refine ⟨trivial, (callsIn_wide.2 (room_any 2 W)).mono ?_⟩
    rw [show (448 * nblk 2 : Nat) = 1792 from by decide]
    rintro e w ⟨rfl, rfl⟩
    gi_wp2
    refine ⟨by simp, .inl ⟨_, _, rfl, run_takeDeferred hK, ?_⟩⟩
    exact ⟨_, results_tmp rfl _ _ _, rfl, hfin⟩
  case stop =>
    rintro D cd pre W hD hpre hlen _
    exact hlen.elim
end Go.Proofs.Ytfmlgleeojblkaa
