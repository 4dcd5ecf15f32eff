/- Package stat's All. -/
import Derived.Test.YtjhhknmdnkkknaaPStatRows
import Derived.Test.YtjhhknmdnkkknaaStsOwn
namespace Go.Proofs.Ytjhhknmdnkkknaa
open Go.RowKit Go.Shelf
attribute [local go_sem] Oper.semAt_some

set_option maxHeartbeats 400000 in
theorem row_any (b : ByteArray) (w : World) :
    Calls Try.prog 50 #[.string b] w fun e w' => e = .returned (.func (.func 62) #[] #[.pointer (some ⟨w.heap.size, 0, none⟩)]) ∧ w.alloc (.cells #[.string b] 9) = w' := by
  go_enter Try.func50, Try.ntmps50
  go_wp2
  go_ret
  exact ⟨rfl, rfl⟩

/-- while All collects: the results' boxes, the list's box and its row, the iterator's variable -/
structure AllI (w : World) (pre : List (St × Int)) (W : World) : Prop where
  r1 : W.heap[w.heap.size]? = some (.cells #[.slice none 0 0] 30 (0, 0))
  r2 : W.heap[w.heap.size + 1]? = some (.cells #[.int .i64 0] 32 (0, 0))
  row : ∃ v, W.heap[w.heap.size + 2]? = some (.cells #[v] 30 (0, 0)) ∧ W.ownsRow w.heap.size 28 13 v pre.length (flatS (pre.map Prod.fst))
  bx : ∃ u, W.heap[w.heap.size + 3]? = some (.cells #[u] 9 (0, 0))
  ok : ∀ x ∈ pre, x.2 = 0
  mod : Mod (fun _ => False) w W
/-- when it is left behind a fault -/
structure AllX (w : World) (pre : List (St × Int)) (W : World) : Prop where
  r1 : W.heap[w.heap.size]? = some (.cells #[.slice none 0 0] 30 (0, 0))
  r2 : ∃ x ∈ pre, x.2 ≠ 0 ∧ W.heap[w.heap.size + 1]? = some (.cells #[.int .i64 x.2] 32 (0, 0))
  mod : Mod (fun _ => False) w W
theorem owns_near {A C : World} {E : Nat → Prop} (hm : Mod E A C) {B size n : Nat} {e : TypeId} {v : Value} {xs : List Value} (h : A.ownsRow B e size v n xs) (hE : ∀ k cs, E k → A.heap[k]? ≠ some (.cells cs e (0, 0))) : C.ownsRow B e size v n xs := by
  refine ⟨h.1, ?_⟩
  rcases h.2 with hn | ⟨g, cap, cur, hv, hb, hgg, r⟩
  · exact .inl hn
  · exact .inr ⟨g, cap, cur, hv, hb, (hm.block g (lt_of hgg) (fun x => hE g _ x hgg)).trans hgg, r⟩
theorem AllI.near {w : World} {pre : List (St × Int)} {A C : World} {E : Nat → Prop} (h : AllI w pre A) (hm : Mod E A C) (hE : ∀ k, E k → k = w.heap.size + 3 ∨ (w.heap.size ≤ k ∧ ∃ ob, A.heap[k]? = some ob ∧ ob.isCells = false))
    (hb : ∃ u, C.heap[w.heap.size + 3]? = some (.cells #[u] 9 (0, 0))) : AllI w pre C := by
  have nc : ∀ k cs t, A.heap[k]? = some (.cells cs t (0, 0)) → k ≠ w.heap.size + 3 → ¬ E k := fun k cs t hk hne hx => by
    rcases hE k hx with g | ⟨_, ob, ho, hc⟩
    · exact hne g
    · rw [hk] at ho; cases ho; cases hc
  obtain ⟨v, hv, hrow⟩ := h.row
  obtain ⟨u, hu⟩ := h.bx
  refine ⟨(hm.block _ (lt_of h.r1) (nc _ _ _ h.r1 (by omega))).trans h.r1, (hm.block _ (lt_of h.r2) (nc _ _ _ h.r2 (by omega))).trans h.r2, ⟨v, (hm.block _ (lt_of hv) (nc _ _ _ hv (by omega))).trans hv, owns_near hm hrow fun k cs hx hk => ?_⟩, hb, h.ok, h.mod.trans' hm fun k hk hx => ?_⟩
  · rcases hE k hx with g | ⟨_, ob, ho, hc⟩
    · subst g
      rw [hu] at hk
      simp at hk
    · rw [hk] at ho; cases ho; cases hc
  · rcases hE k hx with g | ⟨g, _⟩ <;> omega
theorem AllX.near {w : World} {pre : List (St × Int)} {A C : World} {E : Nat → Prop} (h : AllX w pre A) (hm : Mod E A C) (hE : ∀ k, E k → k = w.heap.size + 3 ∨ (w.heap.size ≤ k ∧ ∃ ob, A.heap[k]? = some ob ∧ ob.isCells = false)) : AllX w pre C := by
  have nc : ∀ k cs t, A.heap[k]? = some (.cells cs t (0, 0)) → k ≠ w.heap.size + 3 → ¬ E k := fun k cs t hk hne hx => by
    rcases hE k hx with g | ⟨_, ob, ho, hc⟩
    · exact hne g
    · rw [hk] at ho; cases ho; cases hc
  obtain ⟨x, hx, hne, h2⟩ := h.r2
  refine ⟨(hm.block _ (lt_of h.r1) (nc _ _ _ h.r1 (by omega))).trans h.r1, ⟨x, hx, hne, (hm.block _ (lt_of h2) (nc _ _ _ h2 (by omega))).trans h2⟩, h.mod.trans' hm fun k hk hx => ?_⟩
  rcases hE k hx with g | ⟨g, _⟩ <;> omega
theorem mod_put {A : World} {k : Nat} (o' : Obj) : Mod (· = k) A (A.putObj k o') := by
  have hg := grownBy_putObj' A k o'
  exact ⟨hg.os, hg.tape, hg.output, hg.size, fun j hj hs => hg.block j hj (fun e => hs (by injection e))⟩
theorem allI_holds (w : World) (B : Nat) (hB : w.heap.size ≤ B + 1) : Holds (w.heap.size + 3) B (AllI w) := by
  refine ⟨fun s A C h hm => h.near hm (fun k x => x.elim) ?_, fun s A v h => ?_, fun s A R R' h hR => ?_⟩
  · obtain ⟨u, hu⟩ := h.bx
    exact ⟨u, (hm.block _ (lt_of hu) (fun x => x)).trans hu⟩
  · obtain ⟨u, hu⟩ := h.bx
    exact h.near (Mod.set1 A (w.heap.size + 3) 0 v) (fun k x => Or.inl x) ⟨v, heap_set hu 0 v⟩
  · obtain ⟨u, hu⟩ := h.bx
    have hne : w.heap.size + 3 ≠ B + 1 := fun e => by rw [e, hR] at hu; cases hu
    exact h.near (mod_put (k := B + 1) _) (fun k x => Or.inr ⟨by omega, .loop R, by rw [x]; exact hR, rfl⟩) ⟨u, (World.putObj_heap_other hne).trans hu⟩
theorem allX_holds (w : World) (B : Nat) (hB : w.heap.size ≤ B + 1) : Holds (w.heap.size + 3) B (AllX w) :=
  ⟨fun s A C h hm => h.near hm (fun k x => x.elim), fun s A v h => h.near (Mod.set1 A (w.heap.size + 3) 0 v) (fun k x => Or.inl x), fun s A R R' h hR => h.near (mod_put (k := B + 1) _) (fun k x => Or.inr ⟨by omega, .loop R, by rw [x]; exact hR, rfl⟩)⟩

theorem row_ne {A : World} {B size n : Nat} {e : TypeId} {v : Value} {xs : List Value} {k : Nat} {o : Obj} (h : A.ownsRow B e size v n xs) (hk : A.heap[k]? = some o) (ht : ∀ cs, o ≠ .cells cs e (0, 0)) : some k ≠ v.ownBlock := by
  rcases h.2 with ⟨rfl, _⟩ | ⟨g, cap, cur, rfl, _, hgg, _⟩
  · intro e; simp [Value.ownBlock] at e
  · intro e
    have e1 : k = g := by simpa [Value.ownBlock] using e
    subst e1
    rw [hk] at hgg
    injection hgg with hgg
    exact ht _ hgg
theorem mod_below' {a c d : World} (h : Mod (fun _ => False) a c) (k : Below a.heap.size c d) : Mod (fun _ => False) a d :=
  ⟨k.os.trans h.os, k.tape.trans h.tape, k.output.trans h.output, Nat.le_trans h.size k.size, fun i hi hs => (k.block i hi).trans (h.block i hi hs)⟩
set_option maxRecDepth 100000 in
set_option maxHeartbeats 2000000 in
theorem all_any (b : ByteArray) (w : World) (hb : b.size ≤ 1099511627776) :
    Calls Try.prog 21 #[.string b] w fun e w' => ∃ v, e = .returned (.tuple #[v, .int .i64 (allR b).2]) ∧ OwnA w' w.heap.size 13 v (allR b).1.length (flatS (allR b).1) ∧ Mod (fun _ => False) w w' := by
  obtain ⟨i0, hi0, hz0, hz1, hz2⟩ := info_parts info_stat
  refine (callsIn_wide (n := 6)).1 ?_
  refine callsIn_of_wp_marks Try.func21 rfl trivial ?_ rfl
  simp only [Try.ntmps21, List.size_toArray, List.length_cons, List.length_nil, Nat.reduceAdd, Nat.reduceSub, Array.replicate_succ, Array.replicate_zero, List.push_toArray, List.append_toArray, List.nil_append, List.cons_append]
  gi_wp2_with (refine ⟨trivial, ?_⟩; gi_at_call 50; refine (callsIn_wide.2 (row_any _ _)).mono ?_; rintro e w' ⟨rfl, rfl⟩)
  obtain ⟨W0, hW0⟩ : ∃ W0, ((((w.alloc (.cells #[.slice none 0 0] 30)).alloc (.cells #[.int .i64 0] 32)).alloc (.cells #[.slice none 0 0] 30)).alloc (.cells #[.string b] 9)) = W0 := ⟨_, rfl⟩
  have hsz : W0.heap.size = w.heap.size + 4 := by subst hW0; simp
  have hb1 : W0.heap[w.heap.size]? = some (.cells #[.slice none 0 0] 30 (0, 0)) := by subst hW0; exact alloc_keep (alloc_keep (alloc_keep (new_at _ _)))
  have hb2 : W0.heap[w.heap.size + 1]? = some (.cells #[.int .i64 0] 32 (0, 0)) := by subst hW0; exact alloc_keep (alloc_keep (new_at' _ _ _ (by simp)))
  have hb3 : W0.heap[w.heap.size + 2]? = some (.cells #[.slice none 0 0] 30 (0, 0)) := by subst hW0; exact alloc_keep (new_at' _ _ _ (by simp))
  have hb4 : W0.heap[w.heap.size + 3]? = some (.cells #[.string b] 9 (0, 0)) := by subst hW0; exact new_at' _ _ _ (by simp)
  have hm0 : Mod (fun _ => False) w W0 := by subst hW0; exact ((((Mod.refl _ w).alloc _).alloc _).alloc _).alloc _
  have hI0 : AllI w [] W0 := ⟨hb1, hb2, ⟨_, hb3, World.ownsRow_nil _ _ _ _⟩, ⟨_, hb4⟩, fun x hx => (by cases hx), hm0⟩
  rw [hW0]
  clear hW0
  refine wpIn_rangeW (n := 6) (Bx := w.heap.size + 3) (gf := 62) (lb := #[.pointer (some ⟨w.heap.size + 3, 0, none⟩)]) (by decide) rfl (enters_of Try.func62 (by kernel_rfl) rfl) (row1_ok (6 - 1) (w.heap.size + 3) b hb) (fun _ => rfl) (by omega)
    (AllI w) (AllX w) (allI_holds w W0.heap.size (by omega)) (allX_holds w W0.heap.size (by omega)) (fun U hm => (hm.block _ (lt_of hb4) (fun x => x)).trans hb4) hI0
    (fun x a' W => ∃ Bp, W.heap[Bp]? = some (.cells x.1.cells.toArray 28 (0, 0)) ∧ a' = { tmps := #[.string b, undef, .pointer (some ⟨w.heap.size, 0, none⟩), .pointer (some ⟨w.heap.size + 1, 0, none⟩), .pointer (some ⟨w.heap.size + 1 + 1, 0, none⟩), .pointer (some ⟨Bp, 0, none⟩), .int .i64 x.2, .string b, .func (.func 62) #[] #[.pointer (some ⟨w.heap.size + 3, 0, none⟩)], x.1.v, .int .i64 x.2, undef, undef, undef, undef, undef, undef, undef, undef], defers := [] }) ?hA1 ?round ?body ?done ?stop
  case hA1 =>
    rintro x a' A R R' ⟨Bp, h1, h2⟩ hR
    exact ⟨Bp, (World.putObj_heap_other (fun e => by rw [e, hR] at h1; cases h1)).trans h1, h2⟩
  case round =>
    rintro l pre ⟨s, er⟩ W K hi hsp hnc hK
    simp only [encsP, St.v, St.cells]
    gi_wp2
    exact hK _ _ ((Mod.refl _ _).alloc _) ⟨W.heap.size, new_at _ _, rfl⟩
  case body =>
    rintro l pre ⟨s, er⟩ a' W hi hsp ⟨Bp, hbp, rfl⟩ hnc
    have hplen : pre.length + 1 ≤ 1099511627777 := by
      have h1 := hsp.length_le
      rw [List.length_append, List.length_singleton] at h1
      have := rowsR_len b
      omega
    obtain ⟨v, hv, hrow⟩ := hi.row
    have r1c : W.cell? ⟨w.heap.size, 0, none⟩ = some (.slice none 0 0) := (cell_of hi.r1 0).trans rfl
    have r1f : W.frozen? ⟨w.heap.size, 0, none⟩ = false := free_of hi.r1 0
    have r2c : W.cell? ⟨w.heap.size + 1, 0, none⟩ = some (.int .i64 0) := (cell_of hi.r2 0).trans rfl
    have r2f : W.frozen? ⟨w.heap.size + 1, 0, none⟩ = false := free_of hi.r2 0
    have lc : W.cell? ⟨w.heap.size + 1 + 1, 0, none⟩ = some v := (cell_of hv 0).trans rfl
    have lf : W.frozen? ⟨w.heap.size + 1 + 1, 0, none⟩ = false := free_of hv 0
    unfold St.cells at hbp
    obtain ⟨d0, d1, d2, d3, d4, d5, d6, d7, d8, d9, d10, d11, d12⟩ : (W.cell? ⟨Bp, 0, none⟩ = some (.int .u16 s.ty) ∧ W.cell? ⟨Bp, 1, none⟩ = some (.int .u32 s.dev) ∧ W.cell? ⟨Bp, 2, none⟩ = some (.int .u8 s.qt) ∧ W.cell? ⟨Bp, 3, none⟩ = some (.int .u32 s.qv) ∧ W.cell? ⟨Bp, 4, none⟩ = some (.int .u64 s.qp) ∧ W.cell? ⟨Bp, 5, none⟩ = some (.int .u32 s.mo) ∧ W.cell? ⟨Bp, 6, none⟩ = some (.int .u32 s.at_) ∧ W.cell? ⟨Bp, 7, none⟩ = some (.int .u32 s.mt) ∧ W.cell? ⟨Bp, 8, none⟩ = some (.int .u64 s.len) ∧ W.cell? ⟨Bp, 9, none⟩ = some (.string s.n) ∧ W.cell? ⟨Bp, 10, none⟩ = some (.string s.u) ∧ W.cell? ⟨Bp, 11, none⟩ = some (.string s.g) ∧ W.cell? ⟨Bp, 12, none⟩ = some (.string s.m)) := ⟨(cell_of (w := W) hbp 0).trans rfl, (cell_of (w := W) hbp 1).trans rfl, (cell_of (w := W) hbp 2).trans rfl, (cell_of (w := W) hbp 3).trans rfl, (cell_of (w := W) hbp 4).trans rfl, (cell_of (w := W) hbp 5).trans rfl, (cell_of (w := W) hbp 6).trans rfl, (cell_of (w := W) hbp 7).trans rfl, (cell_of (w := W) hbp 8).trans rfl, (cell_of (w := W) hbp 9).trans rfl, (cell_of (w := W) hbp 10).trans rfl, (cell_of (w := W) hbp 11).trans rfl, (cell_of (w := W) hbp 12).trans rfl⟩
    by_cases he : er ≠ 0
    · have t1 : (er != 0) = true := by simpa using he
      gi_wp2
      refine ⟨fun k hk => ?_, ?_, ⟨(s, er), List.mem_append_right _ (List.mem_singleton.2 rfl), he, ?_⟩, ?_⟩
      · rw [Below.heap_setCell _ _ _ _ (by show k ≠ w.heap.size + 1; omega), Below.heap_setCell _ _ _ _ (by show k ≠ w.heap.size; omega)]
      · rw [Below.heap_setCell _ _ _ _ (by show w.heap.size ≠ w.heap.size + 1; omega)]
        exact heap_set hi.r1 0 _
      · exact heap_set ((Below.heap_setCell _ _ _ _ (by show w.heap.size + 1 ≠ w.heap.size; omega)).trans hi.r2) 0 _
      · exact (hi.mod.setCell (p := ⟨w.heap.size, 0, none⟩) (Or.inr (Nat.le_refl _)) _).setCell (p := ⟨w.heap.size + 1, 0, none⟩) (Or.inr (by show w.heap.size ≤ w.heap.size + 1; omega)) _
    · have he0 : er = 0 := by omega
      subst he0
      have hvb : Boxed W (w.heap.size + 1 + 1) 30 v := hv
      have hWs : w.heap.size ≤ W.heap.size := hi.mod.size
      have hnews : ∀ j u, (flatS [s])[j]? = some u → (W.alloc (.cells #[.int .u16 s.ty, .int .u32 s.dev, .int .u8 s.qt, .int .u32 s.qv, .int .u64 s.qp, .int .u32 s.mo, .int .u32 s.at_, .int .u32 s.mt, .int .u64 s.len, .string s.n, .string s.u, .string s.g, .string s.m] 28)).cell? ((⟨W.heap.size, 0, none⟩ : Addr).add j) = some u := by
        intro j u hj
        rw [show (⟨W.heap.size, 0, none⟩ : Addr).add j = ⟨W.heap.size, 0 + j, none⟩ from by unfold Addr.add; split <;> simp_all]
        rw [Nat.zero_add, cell_of (new_at W _)]
        simpa [flatS, St.cells] using hj
      have hbx := hi.bx
      gi_wp2_with (gi_at_builtin; (refine wpListIn_append_own_at _ rfl (.tmp 14) (.tmp 16) 30 rfl w.heap.size 28 i0 (.agg #[.int .u16 0, .int .u32 0, .int .u8 0, .int .u32 0, .int .u64 0, .int .u32 0, .int .u32 0, .int .u32 0, .int .u64 0, .string { data := #[] }, .string { data := #[] }, .string { data := #[] }, .string { data := #[] }]) 13 112 Try.underlying30 hi0 hz0 hz1 hz2 rfl (by decide) v pre.length (flatS (pre.map Prod.fst)) rfl (hrow.alloc _) ⟨W.heap.size, 0, none⟩ 1 1 (flatS [s]) rfl (by rw [flatS_length]; rfl) hnews (flatS_one _) (by unfold maxLen; omega) (by omega) (by rw [World.size_alloc]; omega) ?_); intro v' w2 hown' hgrow _ hblk; obtain ⟨g', cap', rfl⟩ := ownsRow_succ hown'; obtain ⟨hv1, hv2, hr2, hk2, hb2'⟩ := hvb.appended (by decide) hrow hWs (by omega) hown' hgrow; have hc1 := hv1.cell; have hf1 := hv1.frozen)
      obtain ⟨Wn, hWn⟩ : ∃ Wn, w2.setCell ⟨w.heap.size + 1 + 1, 0, none⟩ (.slice (some ⟨g', 0, none⟩) (pre.length + 1) cap') = Wn := ⟨_, rfl⟩
      have hkeep : ∀ k o, W.heap[k]? = some o → (∀ cs, o ≠ .cells cs 28 (0, 0)) → k ≠ w.heap.size + 1 + 1 → Wn.heap[k]? = W.heap[k]? := fun k o ho hne hk => by
        have hl := lt_of ho
        rw [← hWn, Below.heap_setCell _ _ _ _ hk, hgrow.block k (by rw [World.size_alloc]; omega) (row_ne hrow ho hne), Below.heap_alloc _ _ _ hl]
      rw [hWn] at hv2 hr2 hb2' ⊢
      obtain ⟨u, hu⟩ := hi.bx
      have k3 := hkeep _ _ hu (fun cs e => by injection e with _ e; cases e) (by omega)
      refine ⟨k3, hb2'.size, fun k hk => ?_, ⟨(hkeep _ _ hi.r1 (fun cs e => by injection e with _ e; cases e) (by omega)).trans hi.r1, (hkeep _ _ hi.r2 (fun cs e => by injection e with _ e; cases e) (by omega)).trans hi.r2, ⟨_, hv2, ?_⟩, ⟨u, k3.trans hu⟩, fun x hx => ?_, mod_below' hi.mod hb2'⟩⟩
      · obtain ⟨ob, ho, hc⟩ := hnc k (by rw [hsz]; exact hk)
        exact hkeep k ob ho (fun cs e => by rw [e] at hc; cases hc) (by rcases hk with rfl | rfl <;> omega)
      · rw [List.length_append, List.length_singleton, List.map_append, flatS_append]
        exact hr2
      · rcases List.mem_append.1 hx with h | h
        · exact hi.ok x h
        · rw [List.mem_singleton.1 h]
  case done =>
    rintro xs W rfl hi hD
    obtain ⟨v, hv, hrow⟩ := hi.row
    obtain ⟨ao, nn, cc, rfl⟩ : ∃ ao nn cc, v = .slice ao nn cc := by
      rcases hrow.2 with ⟨h, _⟩ | ⟨g, cap, cur, h, _⟩
      · exact ⟨_, _, _, h⟩
      · exact ⟨_, _, _, h⟩
    have r1c : W.cell? ⟨w.heap.size, 0, none⟩ = some (.slice none 0 0) := (cell_of hi.r1 0).trans rfl
    have r1f : W.frozen? ⟨w.heap.size, 0, none⟩ = false := free_of hi.r1 0
    have r2c : W.cell? ⟨w.heap.size + 1, 0, none⟩ = some (.int .i64 0) := (cell_of hi.r2 0).trans rfl
    have r2f : W.frozen? ⟨w.heap.size + 1, 0, none⟩ = false := free_of hi.r2 0
    have lc : W.cell? ⟨w.heap.size + 1 + 1, 0, none⟩ = some (.slice ao nn cc) := (cell_of hv 0).trans rfl
    obtain ⟨V, hV⟩ : ∃ V, (W.setCell ⟨w.heap.size, 0, none⟩ (.slice ao nn cc)).setCell ⟨w.heap.size + 1, 0, none⟩ (.int .i64 0) = V := ⟨_, rfl⟩
    have hVk : ∀ k, k ≠ w.heap.size → k ≠ w.heap.size + 1 → V.heap[k]? = W.heap[k]? := fun k h1 h2 => by
      rw [← hV, Below.heap_setCell _ _ _ _ h2, Below.heap_setCell _ _ _ _ h1]
    have v1 : V.heap[w.heap.size]? = some (.cells #[.slice ao nn cc] 30 (0, 0)) := by
      rw [← hV, Below.heap_setCell _ _ _ _ (by show w.heap.size ≠ w.heap.size + 1; omega)]; exact heap_set hi.r1 0 _
    have v2 : V.heap[w.heap.size + 1]? = some (.cells #[.int .i64 0] 32 (0, 0)) := by
      rw [← hV]; exact heap_set ((Below.heap_setCell _ _ _ _ (by show w.heap.size + 1 ≠ w.heap.size; omega)).trans hi.r2) 0 _
    have vD := (hVk W0.heap.size (by omega) (by omega)).trans hD
    have vm : Mod (fun k => k = w.heap.size ∨ k = w.heap.size + 1) W V := by
      rw [← hV]; exact ((Mod.refl _ W).setCell (p := ⟨w.heap.size, 0, none⟩) (Or.inl (Or.inl rfl)) _).setCell (p := ⟨w.heap.size + 1, 0, none⟩) (Or.inl (Or.inr rfl)) _
    have vrow := owns_near vm hrow (fun k cs hx hk => by
      rcases hx with rfl | rfl
      · rw [hi.r1] at hk; injection hk with hk; injection hk with _ e; cases e
      · rw [hi.r2] at hk; injection hk with hk; injection hk with _ e; cases e)
    have vmod : Mod (fun _ => False) w V := hi.mod.trans' vm (fun k hk hx => by omega)
    have hall := all_rows_ok hi.ok
    gi_wp2
    refine ⟨by simp, .inl ⟨_, _, rfl, run_takeDeferred vD, ?_⟩⟩
    have um := mod_put (A := V) (k := W0.heap.size)
    have urow := fun o => ownsRow_putObj vrow o vD rfl
    have u1 := fun o => (World.putObj_heap_other (o := o) (w := V) (show w.heap.size ≠ W0.heap.size by omega)).trans v1
    have u2 := fun o => (World.putObj_heap_other (o := o) (w := V) (show w.heap.size + 1 ≠ W0.heap.size by omega)).trans v2
    refine ⟨.tuple #[.slice ao nn cc, .int .i64 0], ?_, ?_⟩
    · have c1 := fun o => (cell_of (u1 o) 0)
      have c2 := fun o => (cell_of (u2 o) 0)
      simp [results, Try.f21, go_sem, c1, c2]
    · refine ⟨_, by rw [hall], ?_, ?_⟩
      · rw [hall, List.length_map]
        exact OwnA.of_owns (urow _)
      · exact vmod.trans' (um _) (fun k hk hx => by omega)
  case stop =>
    rintro pre W hpre hx hD
    obtain ⟨x, hxm, hxe, r2⟩ := hx.r2
    have hall := all_rows_bad (b := b) (hpre.subset hxm) hxe
    refine ⟨by simp, .inl ⟨_, _, rfl, run_takeDeferred hD, ?_⟩⟩
    have um := mod_put (A := W) (k := W0.heap.size)
    have u1 := fun o => (World.putObj_heap_other (o := o) (w := W) (show w.heap.size ≠ W0.heap.size by omega)).trans hx.r1
    have u2 := fun o => (World.putObj_heap_other (o := o) (w := W) (show w.heap.size + 1 ≠ W0.heap.size by omega)).trans r2
    refine ⟨.tuple #[.slice none 0 0, .int .i64 x.2], ?_, ?_⟩
    · have c1 := fun o => (cell_of (u1 o) 0)
      have c2 := fun o => (cell_of (u2 o) 0)
      simp [results, Try.f21, go_sem, c1, c2]
    · refine ⟨_, by rw [hall], ?_, ?_⟩
      · rw [hall]
        exact OwnA.nil _ _ _
      · exact hx.mod.trans' (um _) (fun k hk hx => by omega)
end Go.Proofs.Ytjhhknmdnkkknaa
