/- A row of the call's own, said by its cells; append to it, whatever is appended (a slice, a text). -/
import Derived.Test.YtcadkaedahoefaaBase
import Derived.Deep.AppendSrc
namespace Go.Proofs.Ytcadkaedahoefaa
open Go.RowKit

theorem mod_setCells {S : Nat → Prop} {w0 : World} (b : Nat) : ∀ (vs : List Value) (o : Nat) (w : World), Mod S w0 w → (S b ∨ w0.heap.size ≤ b) → Mod S w0 (w.setCells b o vs)
  | [], _, _, h, _ => h
  | v :: r, o, _, h, hb => mod_setCells b r (o + 1) _ (h.setCell (p := ⟨b, o, none⟩) hb v) hb

/-- v owns n elements (size cells each), xs, at the head of a row from block base on, all of whose cells may be written -/
def OwnA (w : World) (base size : Nat) (v : Value) (n : Nat) (xs : List Value) : Prop :=
  xs.length = n * size ∧ ((v = .slice none 0 0 ∧ n = 0) ∨ ∃ g cap, v = .slice (some ⟨g, 0, none⟩) n cap ∧ base ≤ g ∧ g < w.heap.size ∧ n ≤ cap ∧
    (∀ j, j < cap * size → (w.cell? ⟨g, j, none⟩).isSome = true) ∧ (∀ j, j < cap * size → w.frozen? ⟨g, j, none⟩ = false) ∧ (∀ j u, xs[j]? = some u → w.cell? ⟨g, j, none⟩ = some u))

theorem OwnA.nil (w : World) (base size : Nat) : OwnA w base size (.slice none 0 0) 0 [] := ⟨by simp, .inl ⟨rfl, rfl⟩⟩
theorem OwnA.mono {w : World} {base base' size n : Nat} {v : Value} {xs : List Value} (h : OwnA w base size v n xs) (hb : base' ≤ base) : OwnA w base' size v n xs := by
  refine ⟨h.1, ?_⟩
  rcases h.2 with hn | ⟨g, cap, h1, h2, h3⟩
  · exact .inl hn
  · exact .inr ⟨g, cap, h1, Nat.le_trans hb h2, h3⟩
theorem OwnA.mod {w w' : World} {base size n : Nat} {v : Value} {xs : List Value} {S : Nat → Prop} (h : OwnA w base size v n xs) (hm : Mod S w w') (hS : ∀ k, base ≤ k → ¬ S k) : OwnA w' base size v n xs := by
  refine ⟨h.1, ?_⟩
  rcases h.2 with hn | ⟨g, cap, h1, h2, h3, h4, h5, h6, h7⟩
  · exact .inl hn
  · have hb := hm.block g h3 (hS g h2)
    have hc : ∀ j, w'.cell? ⟨g, j, none⟩ = w.cell? ⟨g, j, none⟩ := fun j => World.cell?_of_block (a := ⟨g, j, none⟩) hb
    have hf : ∀ j, w'.frozen? ⟨g, j, none⟩ = w.frozen? ⟨g, j, none⟩ := fun j => World.frozen?_of_block (a := ⟨g, j, none⟩) hb
    exact .inr ⟨g, cap, h1, h2, Nat.lt_of_lt_of_le h3 hm.size, h4, fun j hj => by rw [hc]; exact h5 j hj, fun j hj => by rw [hf]; exact h6 j hj, fun j u hj => by rw [hc]; exact h7 j u hj⟩
theorem OwnA.modB {w w' : World} {base size n : Nat} {v : Value} {xs : List Value} {S : Nat → Prop} (h : OwnA w base size v n xs) (hm : Mod S w w') (hS : ∀ k, some k = v.ownBlock → ¬ S k) : OwnA w' base size v n xs := by
  refine ⟨h.1, ?_⟩
  rcases h.2 with hn | ⟨g, cap, rfl, h2, h3, h4, h5, h6, h7⟩
  · exact .inl hn
  · have hb := hm.block g h3 (hS g rfl)
    have hc : ∀ j, w'.cell? ⟨g, j, none⟩ = w.cell? ⟨g, j, none⟩ := fun j => World.cell?_of_block (a := ⟨g, j, none⟩) hb
    have hf : ∀ j, w'.frozen? ⟨g, j, none⟩ = w.frozen? ⟨g, j, none⟩ := fun j => World.frozen?_of_block (a := ⟨g, j, none⟩) hb
    exact .inr ⟨g, cap, rfl, h2, Nat.lt_of_lt_of_le h3 hm.size, h4, fun j hj => by rw [hc]; exact h5 j hj, fun j hj => by rw [hf]; exact h6 j hj, fun j u hj => by rw [hc]; exact h7 j u hj⟩
theorem OwnA.slAt {w : World} {base n : Nat} {v : Value} {xs : List Value} (h : OwnA w base 1 v n xs) : SlAt w (base ≤ ·) v xs := by
  obtain ⟨h1, h2⟩ := h
  obtain rfl : xs.length = n := by omega
  rcases h2 with ⟨h2, h3⟩ | ⟨g, cap, hv, hg, hl, hn, _, _, hc⟩
  · exact .inl ⟨List.eq_nil_of_length_eq_zero h3, _, _, h2⟩
  · exact .inr ⟨g, 0, cap, hv, hg, hl, hn, fun j u hj => by rw [Nat.zero_add]; exact hc j u hj⟩
theorem OwnA.of_owns {w : World} {base size n : Nat} {e : TypeId} {v : Value} {xs : List Value} (h : w.ownsRow base e size v n xs) : OwnA w base size v n xs := by
  refine ⟨h.1, ?_⟩
  rcases h.2 with hn | ⟨g, cap, cur, rfl, hb, hgg, hnc, _, hcs, htk⟩
  · exact .inl hn
  · refine .inr ⟨g, cap, rfl, hb, lt_of hgg, hnc, fun j hj => ?_, fun j _ => free_of hgg j, fun j u hj => ?_⟩
    · rw [cell_of hgg, Array.getElem?_eq_getElem (by omega)]; rfl
    · rw [cell_of hgg, ← Array.getElem?_toList]
      rw [← htk, List.getElem?_take] at hj
      split at hj
      · exact hj
      · cases hj

theorem run_append_A {P : Program} (w : World) (base : Nat) (t tx ty e : TypeId) (i : TypeInfo) (z : Value) (size bytes : Nat) (ht : P.underlying t = some (.slice e)) (hi : P.info? e = some i) (hz : i.zero = some z)
    (hsize : i.size = size) (hby : i.bytes = bytes) (hzs : z.cells.size = size) (hsz : 0 < size)
    (v : Value) (n : Nat) (xs : List Value) (hown : OwnA w base size v n xs) (x : Value) (m : Nat) (news : List Value) (hs : Src P size tx x m news w)
    (hbytes : (n + m) * bytes ≤ 140737488355328) (h63 : n + m ≤ 9223372036854775807) (hbase : base ≤ w.heap.size) :
    ∃ v' w', (Builtin.append_ #[t, tx] ty #[v, x]).run P w = .ok v' w' ∧ OwnA w' base size v' (n + m) (xs ++ news) ∧ Mod (fun k => some k = v.ownBlock) w w' ∧ (v'.ownBlock = v.ownBlock ∨ v'.ownBlock = some w.heap.size) := by
  subst hsize
  subst hby
  have hlen : (xs ++ news).length = (n + m) * i.size := by rw [List.length_append, hown.1, hs.newsLen, Nat.add_mul]
  have grown : ∀ (old : Nat) (S : Nat → Prop), old < n + m →
      OwnA (w.drew.alloc (.cells ((xs ++ news).toArray ++ Builtin.zeroCells z.cells (grownCap w (n + m) old e - (n + m))) e)) base i.size (.slice (some ⟨w.heap.size, 0, none⟩) (n + m) (grownCap w (n + m) old e)) (n + m) (xs ++ news) ∧
      Mod S w (w.drew.alloc (.cells ((xs ++ news).toArray ++ Builtin.zeroCells z.cells (grownCap w (n + m) old e - (n + m))) e)) := by
    intro old S ho
    have hge := grownCap_ge w (n + m) old e
    generalize grownCap w (n + m) old e = gc at *
    have hN : (w.drew.alloc (.cells ((xs ++ news).toArray ++ Builtin.zeroCells z.cells (gc - (n + m))) e)).heap[w.heap.size]? = some (.cells ((xs ++ news).toArray ++ Builtin.zeroCells z.cells (gc - (n + m))) e (0, 0)) := heap_alloc_new w.drew (.cells ((xs ++ news).toArray ++ Builtin.zeroCells z.cells (gc - (n + m))) e)
    have hcs : ((xs ++ news).toArray ++ Builtin.zeroCells z.cells (gc - (n + m))).size = gc * i.size := by
      rw [Array.size_append, List.size_toArray, size_zeroCells, hzs, hlen, ← Nat.add_mul]
      congr 1
      omega
    refine ⟨⟨hlen, .inr ⟨w.heap.size, gc, rfl, hbase, by simp, hge, fun j hj => ?_, fun j _ => free_of hN j, fun j u hj => ?_⟩⟩, (Mod.refl S w).drew.alloc _⟩
    · rw [cell_of hN, Array.getElem?_eq_getElem (by omega)]; rfl
    · rw [cell_of hN]
      have hjl := (List.getElem?_eq_some_iff.1 hj).1
      rw [Array.getElem?_append_left (by rw [List.size_toArray]; exact hjl), List.getElem?_toArray]
      exact hj
  rcases hown.2 with ⟨rfl, rfl⟩ | ⟨g, cap, rfl, hbg, hgl, hnc, hc, hf, hx⟩
  · have hx : xs = [] := List.eq_nil_of_length_eq_zero (by simpa using hown.1)
    subst hx
    by_cases hm : m = 0
    · subst hm
      have hn : news = [] := List.eq_nil_of_length_eq_zero (by simpa using hs.newsLen)
      subst hn
      refine ⟨.slice none 0 0, w, ?_, OwnA.nil w base i.size, Mod.refl _ _, Or.inl rfl⟩
      rcases hs.kind with ⟨e', hk⟩ | hk <;> simp [Builtin.append_, run_underlying ht, run_underlying hk, sizeOf, typeInfo, hi, hs.len, hs.cells]
    · have hr := run_append_grow_src (P := P) w t tx ty e i z ht hi hz none 0 0 [] (by simp [Builtin.firstCells]) x m news hs (by omega) (by omega) (growslice_fits (by omega) hbytes)
      have hgr := grown 0 (fun k => some k = Value.ownBlock (.slice none 0 0)) (by omega)
      exact ⟨_, _, hr, hgr.1, hgr.2, Or.inr rfl⟩
  · by_cases hroom : n + m ≤ cap
    · have hlt : ∀ j, j < news.length → 0 + n * i.size + j < cap * i.size := by
        intro j hj
        rw [hs.newsLen] at hj
        have : (n + m) * i.size ≤ cap * i.size := Nat.mul_le_mul_right _ hroom
        rw [Nat.add_mul] at this
        omega
      have hr := run_append_room_src (P := P) w t tx ty e i ht hi g 0 n cap x m news hs hroom (fun j hj => hc _ (hlt j hj)) (fun j hj => hf _ (hlt j hj))
      have hm : Mod (fun k => some k = Value.ownBlock (.slice (some ⟨g, 0, none⟩) n cap)) w (w.setCells g (0 + n * i.size) news) := mod_setCells g _ _ _ (Mod.refl _ w) (Or.inl rfl)
      have hin := World.cell?_setCells_in g news (0 + n * i.size) w (fun j hj => hc _ (hlt j hj))
      have hout := fun j (hj : j < 0 + n * i.size ∨ 0 + n * i.size + news.length ≤ j) => World.cell?_setCells_out g news (0 + n * i.size) w ⟨g, j, none⟩ (fun _ _ => hj)
      refine ⟨_, _, hr, ⟨hlen, .inr ⟨g, cap, rfl, hbg, Nat.lt_of_lt_of_le hgl hm.size, hroom, fun j hj => ?_, fun j hj => by rw [World.frozen?_setCells]; exact hf j hj, fun j u hj => ?_⟩⟩, hm, Or.inl rfl⟩
      · by_cases h : j < 0 + n * i.size ∨ 0 + n * i.size + news.length ≤ j
        · rw [hout j h]; exact hc j hj
        · have := hin (j - (0 + n * i.size)) (by omega)
          rw [show 0 + n * i.size + (j - (0 + n * i.size)) = j from by omega] at this
          rw [this]; rfl
      · rw [List.getElem?_append] at hj
        split at hj
        · rename_i h
          rw [hout j (Or.inl (by rw [hown.1] at h; omega))]
          exact hx j u hj
        · rename_i h
          obtain ⟨hk, hu⟩ := List.getElem?_eq_some_iff.1 hj
          rw [hown.1] at h
          have := hin (j - xs.length) hk
          rw [hu, show 0 + n * i.size + (j - xs.length) = j from by rw [hown.1]; omega] at this
          exact this
    · have hold : (Builtin.firstCells i.size n (.slice (some ⟨g, 0, none⟩) n cap)).run P w.drew = .ok xs.toArray w.drew :=
        run_firstCells_some w.drew i.size n ⟨g, 0, none⟩ n cap xs hown.1 (fun j u hj => by
          rw [show (⟨g, 0, none⟩ : Addr).add j = ⟨g, j, none⟩ from by unfold Addr.add; split <;> simp_all]; exact hx j u hj)
      have hr := run_append_grow_src (P := P) w t tx ty e i z ht hi hz (some ⟨g, 0, none⟩) n cap xs hold x m news hs (by omega) (by omega) (growslice_fits (by omega) hbytes)
      have hgr := grown cap (fun k => some k = Value.ownBlock (.slice (some ⟨g, 0, none⟩) n cap)) (by omega)
      exact ⟨_, _, hr, hgr.1, hgr.2, Or.inr rfl⟩

/-- 'append(s, x...)', wherever it stands: s the call's own -/
theorem op_append {P : Program} {w : World} {o : Oper} {a : Act} {K : Act → World → Prop} {Q : Exit → Act → World → Prop} (s x : Operand) (t tx : TypeId)
    (ho : o.op = .call { callee := .builtin .append, args := #[s, x], argTypes := #[t, tx] })
    (base : Nat) (e : TypeId) (z : Value) (size bytes : Nat) (ht : P.underlying t = some (.slice e)) (hi : (P.info? e).map (fun i => (i.zero, i.size, i.bytes)) = some (some z, size, bytes)) (hzs : z.cells.size = size) (hsz : 0 < size)
    (v : Value) (n : Nat) (xs : List Value) (hv : a.eval s = v) (hown : OwnA w base size v n xs) (X : Value) (m : Nat) (news : List Value) (hx : a.eval x = X) (hs : Src P size tx X m news w)
    (hbytes : (n + m) * bytes ≤ 140737488355328) (h63 : n + m ≤ 9223372036854775807) (hbase : base ≤ w.heap.size)
    (h : ∀ v' w', OwnA w' base size v' (n + m) (xs ++ news) → Mod (fun k => some k = v.ownBlock) w w' → (v'.ownBlock = v.ownBlock ∨ v'.ownBlock = some w.heap.size) → K (a.put o.dst v') w') : o.wp P a w K Q := by
  obtain ⟨i, hi0, hz0, hi1, hi2⟩ := info_parts hi
  obtain ⟨v', w', hr, h2, h3, h4⟩ := run_append_A (P := P) w base t tx o.type e i z size bytes ht hi0 hz0 hi1 hi2 hzs hsz v n xs hown X m news hs hbytes h63 hbase
  unfold Oper.wp execOp
  simp only [ho, resolve, invoke, builtin, Sem.run_bind, Sem.run_pure, Result.andThen_ok, List.map_toArray, List.map_cons, List.map_nil, hv, hx, hr]
  exact h v' w' h2 h3 h4
/-- the same, and where the row lies then -/
theorem wpl_appendB {P : Program} {w : World} {ops : Array Oper} {rest : List Oper} {o : Oper} {a : Act} {Q : Exit → Act → World → Prop} (hgd : o.guard = none) (s x : Operand) (t tx : TypeId)
    (ho : o.op = .call { callee := .builtin .append, args := #[s, x], argTypes := #[t, tx] })
    (base : Nat) (e : TypeId) (z : Value) (size bytes : Nat) (ht : P.underlying t = some (.slice e)) (hi : (P.info? e).map (fun i => (i.zero, i.size, i.bytes)) = some (some z, size, bytes)) (hzs : z.cells.size = size) (hsz : 0 < size)
    (v : Value) (n : Nat) (xs : List Value) (hv : a.eval s = v) (hown : OwnA w base size v n xs) (X : Value) (m : Nat) (news : List Value) (hx : a.eval x = X) (hs : Src P size tx X m news w)
    (hbytes : (n + m) * bytes ≤ 140737488355328) (h63 : n + m ≤ 9223372036854775807) (hbase : base ≤ w.heap.size)
    (h : ∀ v' w', OwnA w' base size v' (n + m) (xs ++ news) → Mod (fun k => some k = v.ownBlock) w w' → (v'.ownBlock = v.ownBlock ∨ v'.ownBlock = some w.heap.size) → wpList P ops Q rest (a.put o.dst v') w') : wpList P ops Q (o :: rest) a w :=
  wpList_plain hgd fun _ hK => op_append s x t tx ho base e z size bytes ht hi hzs hsz v n xs hv hown X m news hx hs hbytes h63 hbase fun v' w' h1 h2 h3 => hK _ _ (h v' w' h1 h2 h3)
/-- 'append(s, x...)': s the call's own -/
theorem wpl_append {P : Program} {w : World} {ops : Array Oper} {rest : List Oper} {o : Oper} {a : Act} {Q : Exit → Act → World → Prop} (hgd : o.guard = none) (s x : Operand) (t tx : TypeId)
    (ho : o.op = .call { callee := .builtin .append, args := #[s, x], argTypes := #[t, tx] })
    (base : Nat) (e : TypeId) (z : Value) (size bytes : Nat) (ht : P.underlying t = some (.slice e)) (hi : (P.info? e).map (fun i => (i.zero, i.size, i.bytes)) = some (some z, size, bytes)) (hzs : z.cells.size = size) (hsz : 0 < size)
    (v : Value) (n : Nat) (xs : List Value) (hv : a.eval s = v) (hown : OwnA w base size v n xs) (X : Value) (m : Nat) (news : List Value) (hx : a.eval x = X) (hs : Src P size tx X m news w)
    (hbytes : (n + m) * bytes ≤ 140737488355328) (h63 : n + m ≤ 9223372036854775807) (hbase : base ≤ w.heap.size)
    (h : ∀ v' w', OwnA w' base size v' (n + m) (xs ++ news) → Mod (fun k => some k = v.ownBlock) w w' → wpList P ops Q rest (a.put o.dst v') w') : wpList P ops Q (o :: rest) a w :=
  wpList_plain hgd fun _ hK => op_append s x t tx ho base e z size bytes ht hi hzs hsz v n xs hv hown X m news hx hs hbytes h63 hbase fun v' w' h1 h2 _ => hK _ _ (h v' w' h1 h2)

theorem OwnA.succ {w : World} {base size n : Nat} {v : Value} {xs : List Value} (h : OwnA w base size v (n + 1) xs) : ∃ g cap, v = .slice (some ⟨g, 0, none⟩) (n + 1) cap := by
  rcases h.2 with ⟨_, h0⟩ | ⟨g, cap, hv, _⟩
  · omega
  · exact ⟨g, cap, hv⟩
theorem OwnA.lt {w : World} {base size n : Nat} {v : Value} {xs : List Value} (h : OwnA w base size v n xs) : ∀ k, some k = v.ownBlock → base ≤ k ∧ k < w.heap.size := by
  intro k hk
  rcases h.2 with ⟨rfl, _⟩ | ⟨g, cap, rfl, hb, hg, _⟩
  · simp [Value.ownBlock] at hk
  · simp [Value.ownBlock] at hk
    subst hk
    exact ⟨hb, hg⟩
/-- what an append to what is new turns: nothing that was there -/
theorem OwnA.thenMod {w0 w w' : World} {S : Nat → Prop} {base size n : Nat} {v : Value} {xs : List Value} (h : OwnA w base size v n xs) (hm : Mod S w0 w) (hg : Mod (fun k => some k = v.ownBlock) w w') (hb : w0.heap.size ≤ base) : Mod S w0 w' :=
  hm.trans' hg fun k hk x => by have := (h.lt k x).1; omega
theorem OwnA.keep {w w' : World} {base size n b : Nat} {v : Value} {xs : List Value} (h : OwnA w base size v n xs) (hg : Mod (fun k => some k = v.ownBlock) w w') (hb : b < base) (hw : b < w.heap.size) : w'.heap[b]? = w.heap[b]? :=
  hg.block b hw fun x => by have := (h.lt b x).1; omega

theorem bc_append (l m : List UInt8) : bc (l ++ m) = bc l ++ bc m := List.map_append
theorem src_slAt {P : Program} {w : World} {tx e : TypeId} (hk : P.underlying tx = some (.slice e)) {Q : Nat → Prop} {a : Option Addr} {n c : Nat} {xs : List Value} (h : SlAt w Q (.slice a n c) xs) (hn : xs.length = n) (h1 : ∀ u ∈ xs, u.oneCell' = true) : Src P 1 tx (.slice a n c) n xs w := by
  rcases h with ⟨rfl, a', c', h⟩ | ⟨g, off, cap, h, _, _, _, hc⟩
  · obtain rfl : n = 0 := hn.symm
    cases a with
    | none => exact Src.ofNil _ hk c
    | some ad => exact Src.ofSlice _ hk ad 0 c [] rfl (fun j u hj => by simp at hj) h1
  · injection h with e1 e2 e3
    subst e1
    refine Src.ofSlice _ hk _ n c xs (by omega) (fun j u hj => ?_) h1
    rw [show (⟨g, off, none⟩ : Addr).add j = ⟨g, off + j, none⟩ from by unfold Addr.add; split <;> simp_all]
    exact hc j u hj
theorem src_string {P : Program} (w : World) {tx : TypeId} (hk : P.underlying tx = some .string) (s : ByteArray) : Src P 1 tx (.string s) s.size (bc s.data.toList) w := Src.ofString w hk s
/-- '[]byte(s)' is a row of the call's own -/
theorem conv_own {P : Program} (w : World) (src dst e : TypeId) (s : ByteArray) {u : TypeDesc}
    (hs : P.underlying src = some u) (hd : P.underlying dst = some (.slice e)) (he : P.underlying e = some (.int .u8)) :
    ∃ w' v, (convert src dst (.string s)).run P w = .ok v w' ∧ OwnA w' w.heap.size 1 v s.size (bc s.data.toList) ∧ Mod (fun _ => False) w w' := by
  have hN := Lib.bytesWorld_at_new w e s
  have hsz : (Lib.bytesCells w e s).size = grownCap w s.size 0 e := by
    have := grownCap_ge w s.size 0 e
    simp [Lib.bytesCells, Array.size_append, Array.size_map, Array.size_replicate]
    have h2 : s.data.size = s.size := rfl
    omega
  refine ⟨_, _, Lib.run_convert_string_bytes w src dst e s hs hd he, ⟨by rw [bc_length, Array.length_toList, Nat.mul_one]; rfl, .inr ⟨w.heap.size, _, rfl, Nat.le_refl _, by rw [Lib.bytesWorld_size]; omega, grownCap_ge _ _ _ _, fun j hj => ?_, fun j hj => ?_, fun j u hj => ?_⟩⟩, ⟨rfl, rfl, rfl, by rw [Lib.bytesWorld_size]; omega, fun k hk _ => Lib.bytesWorld_at_old w e s k hk⟩⟩
  · simp only [World.cell?, hN]
    rw [Nat.mul_one] at hj
    simp only [Option.isSome_none, Bool.false_eq_true, if_false]
    rw [Array.getElem?_eq_getElem (by omega)]; rfl
  · simp only [World.frozen?, hN]
    rw [Nat.mul_one] at hj
    simp
    omega
  · have hjl : j < s.size := by
      have := (List.getElem?_eq_some_iff.1 hj).1
      rw [bc_length, Array.length_toList] at this
      exact this
    rw [Lib.bytesWorld_cell w e s j hjl]
    rw [bc_get] at hj
    have h2 : j < s.data.toList.length := by rw [Array.length_toList]; exact hjl
    rw [List.getElem?_eq_getElem h2] at hj
    simp only [Option.map_some, Option.some.injEq] at hj
    rw [← hj, List.getD_eq_getElem?_getD, List.getElem?_eq_getElem h2]; rfl
/-- 'string(b)', b the call's own -/
theorem conv_ownS {P : Program} {w : World} (src dst e : TypeId) {base n : Nat} {v : Value} {l : List UInt8} (h : OwnA w base 1 v n (bc l))
    (hs : P.underlying src = some (.slice e)) (he : P.underlying e = some (.int .u8)) (hd : P.underlying dst = some .string) :
    (convert src dst v).run P w = .ok (.string (bs l)) w := by
  have hl : n = l.length := by have := h.1; rw [bc_length] at this; omega
  rcases h.2 with ⟨rfl, h0⟩ | ⟨g, cap, rfl, _, _, _, _, _, hc⟩
  · obtain rfl : l = [] := List.eq_nil_of_length_eq_zero (by omega)
    exact run_convert_bytes_nil w src e hs he 0 0 dst hd
  · refine conv_string w src dst e g 0 cap l n hl hs he hd fun j hj => ?_
    rw [Nat.zero_add]
    exact hc j _ (by rw [bc_get, List.getElem?_eq_getElem hj]; rfl)
end Go.Proofs.Ytcadkaedahoefaa
