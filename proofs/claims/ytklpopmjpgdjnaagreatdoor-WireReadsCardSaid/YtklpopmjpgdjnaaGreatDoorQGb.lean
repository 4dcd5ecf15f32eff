/- A row of the call's own, said by its cells; append to it, whatever is appended (a slice, a text).
   Numbers and texts as bytes: package code's writers, and the document's.
   The contracts of package code's reader.
   The contracts of package code's reader, more: numbers, what is left, faults. -/
import Derived.Test.YtklpopmjpgdjnaaGreatDoorQGa
import Derived.Deep.AppendSrc
import Derived.Defers
set_option linter.unusedVariables false
set_option linter.unusedSimpArgs false
namespace Go.Proofs.YtklpopmjpgdjnaaGreatDoor
open Go.RowKit

theorem mod_setCells {S : Nat → Prop} {w0 : World} (b : Nat) : ∀ (vs : List Value) (o : Nat) (w : World), Mod S w0 w → (S b ∨ w0.heap.size ≤ b) → Mod S w0 (w.setCells b o vs)
  | [], _, _, h, _ => h
  | v :: r, o, _, h, hb => mod_setCells b r (o + 1) _ (h.setCell (p := ⟨b, o, none⟩) hb v) hb

/-- v owns n elements (size cells each), xs, at the head of a row from block base on, all of whose cells may be written -/
def OwnA (w : World) (base size : Nat) (v : Value) (n : Nat) (xs : List Value) : Prop :=
  xs.length = n * size ∧ ((v = .slice none 0 0 ∧ n = 0) ∨ ∃ g cap, v = .slice (some ⟨g, 0, none⟩) n cap ∧ base ≤ g ∧ g < w.heap.size ∧ n ≤ cap ∧
    (∀ j, j < cap * size → (w.cell? ⟨g, j, none⟩).isSome = true) ∧ (∀ j, j < cap * size → w.frozen? ⟨g, j, none⟩ = false) ∧ (∀ j u, xs[j]? = some u → w.cell? ⟨g, j, none⟩ = some u))

theorem OwnA.nil (w : World) (base size : Nat) : OwnA w base size (.slice none 0 0) 0 [] := ⟨by simp, .inl ⟨rfl, rfl⟩⟩
theorem OwnA.mono {w : World} {base base' size n : Nat} {v : Value} {xs : List Value} (h : OwnA w base size v n xs) (hb : base' ≤ base) : OwnA w base' size v n xs := by
  refine ⟨h.1, ?_⟩
  rcases h.2 with hn | ⟨g, cap, h1, h2, h3⟩
  · exact .inl hn
  · exact .inr ⟨g, cap, h1, Nat.le_trans hb h2, h3⟩
theorem OwnA.mod {w w' : World} {base size n : Nat} {v : Value} {xs : List Value} {S : Nat → Prop} (h : OwnA w base size v n xs) (hm : Mod S w w') (hS : ∀ k, base ≤ k → ¬ S k) : OwnA w' base size v n xs := by
  refine ⟨h.1, ?_⟩
  rcases h.2 with hn | ⟨g, cap, h1, h2, h3, h4, h5, h6, h7⟩
  · exact .inl hn
  · have hb := hm.block g h3 (hS g h2)
    have hc : ∀ j, w'.cell? ⟨g, j, none⟩ = w.cell? ⟨g, j, none⟩ := fun j => World.cell?_of_block (a := ⟨g, j, none⟩) hb
    have hf : ∀ j, w'.frozen? ⟨g, j, none⟩ = w.frozen? ⟨g, j, none⟩ := fun j => World.frozen?_of_block (a := ⟨g, j, none⟩) hb
    exact .inr ⟨g, cap, h1, h2, Nat.lt_of_lt_of_le h3 hm.size, h4, fun j hj => by rw [hc]; exact h5 j hj, fun j hj => by rw [hf]; exact h6 j hj, fun j u hj => by rw [hc]; exact h7 j u hj⟩
theorem OwnA.modB {w w' : World} {base size n : Nat} {v : Value} {xs : List Value} {S : Nat → Prop} (h : OwnA w base size v n xs) (hm : Mod S w w') (hS : ∀ k, some k = v.ownBlock → ¬ S k) : OwnA w' base size v n xs := by
  refine ⟨h.1, ?_⟩
  rcases h.2 with hn | ⟨g, cap, rfl, h2, h3, h4, h5, h6, h7⟩
  · exact .inl hn
  · have hb := hm.block g h3 (hS g rfl)
    have hc : ∀ j, w'.cell? ⟨g, j, none⟩ = w.cell? ⟨g, j, none⟩ := fun j => World.cell?_of_block (a := ⟨g, j, none⟩) hb
    have hf : ∀ j, w'.frozen? ⟨g, j, none⟩ = w.frozen? ⟨g, j, none⟩ := fun j => World.frozen?_of_block (a := ⟨g, j, none⟩) hb
    exact .inr ⟨g, cap, rfl, h2, Nat.lt_of_lt_of_le h3 hm.size, h4, fun j hj => by rw [hc]; exact h5 j hj, fun j hj => by rw [hf]; exact h6 j hj, fun j u hj => by rw [hc]; exact h7 j u hj⟩
theorem OwnA.slAt {w : World} {base n : Nat} {v : Value} {xs : List Value} (h : OwnA w base 1 v n xs) : SlAt w (base ≤ ·) v xs := by
  obtain ⟨h1, h2⟩ := h
  obtain rfl : xs.length = n := by omega
  rcases h2 with ⟨h2, h3⟩ | ⟨g, cap, hv, hg, hl, hn, _, _, hc⟩
  · exact .inl ⟨List.eq_nil_of_length_eq_zero h3, _, _, h2⟩
  · exact .inr ⟨g, 0, cap, hv, hg, hl, hn, fun j u hj => by rw [Nat.zero_add]; exact hc j u hj⟩
theorem OwnA.of_owns {w : World} {base size n : Nat} {e : TypeId} {v : Value} {xs : List Value} (h : w.ownsRow base e size v n xs) : OwnA w base size v n xs := by
  refine ⟨h.1, ?_⟩
  rcases h.2 with hn | ⟨g, cap, cur, rfl, hb, hgg, hnc, _, hcs, htk⟩
  · exact .inl hn
  · refine .inr ⟨g, cap, rfl, hb, lt_of hgg, hnc, fun j hj => ?_, fun j _ => free_of hgg j, fun j u hj => ?_⟩
    · rw [cell_of hgg, Array.getElem?_eq_getElem (by omega)]; rfl
    · rw [cell_of hgg, ← Array.getElem?_toList]
      rw [← htk, List.getElem?_take] at hj
      split at hj
      · exact hj
      · cases hj

theorem run_append_A {P : Program} (w : World) (base : Nat) (t tx ty e : TypeId) (i : TypeInfo) (z : Value) (size bytes : Nat) (ht : P.underlying t = some (.slice e)) (hi : P.info? e = some i) (hz : i.zero = some z)
    (hsize : i.size = size) (hby : i.bytes = bytes) (hzs : z.cells.size = size) (hsz : 0 < size)
    (v : Value) (n : Nat) (xs : List Value) (hown : OwnA w base size v n xs) (x : Value) (m : Nat) (news : List Value) (hs : Src P size tx x m news w)
    (hbytes : (n + m) * bytes ≤ 140737488355328) (h63 : n + m ≤ 9223372036854775807) (hbase : base ≤ w.heap.size) :
    ∃ v' w', (Builtin.append_ #[t, tx] ty #[v, x]).run P w = .ok v' w' ∧ OwnA w' base size v' (n + m) (xs ++ news) ∧ Mod (fun k => some k = v.ownBlock) w w' ∧ (v'.ownBlock = v.ownBlock ∨ v'.ownBlock = some w.heap.size) := by
  subst hsize
  subst hby
  have hlen : (xs ++ news).length = (n + m) * i.size := by rw [List.length_append, hown.1, hs.newsLen, Nat.add_mul]
  have grown : ∀ (old : Nat) (S : Nat → Prop), old < n + m →
      OwnA (w.drew.alloc (.cells ((xs ++ news).toArray ++ Builtin.zeroCells z.cells (grownCap w (n + m) old e - (n + m))) e)) base i.size (.slice (some ⟨w.heap.size, 0, none⟩) (n + m) (grownCap w (n + m) old e)) (n + m) (xs ++ news) ∧
      Mod S w (w.drew.alloc (.cells ((xs ++ news).toArray ++ Builtin.zeroCells z.cells (grownCap w (n + m) old e - (n + m))) e)) := by
    intro old S ho
    have hge := grownCap_ge w (n + m) old e
    generalize grownCap w (n + m) old e = gc at *
    have hN : (w.drew.alloc (.cells ((xs ++ news).toArray ++ Builtin.zeroCells z.cells (gc - (n + m))) e)).heap[w.heap.size]? = some (.cells ((xs ++ news).toArray ++ Builtin.zeroCells z.cells (gc - (n + m))) e (0, 0)) := heap_alloc_new w.drew (.cells ((xs ++ news).toArray ++ Builtin.zeroCells z.cells (gc - (n + m))) e)
    have hcs : ((xs ++ news).toArray ++ Builtin.zeroCells z.cells (gc - (n + m))).size = gc * i.size := by
      rw [Array.size_append, List.size_toArray, size_zeroCells, hzs, hlen, ← Nat.add_mul]
      congr 1
      omega
    refine ⟨⟨hlen, .inr ⟨w.heap.size, gc, rfl, hbase, by simp, hge, fun j hj => ?_, fun j _ => free_of hN j, fun j u hj => ?_⟩⟩, (Mod.refl S w).drew.alloc _⟩
    · rw [cell_of hN, Array.getElem?_eq_getElem (by omega)]; rfl
    · rw [cell_of hN]
      have hjl := (List.getElem?_eq_some_iff.1 hj).1
      rw [Array.getElem?_append_left (by rw [List.size_toArray]; exact hjl), List.getElem?_toArray]
      exact hj
  rcases hown.2 with ⟨rfl, rfl⟩ | ⟨g, cap, rfl, hbg, hgl, hnc, hc, hf, hx⟩
  · have hx : xs = [] := List.eq_nil_of_length_eq_zero (by simpa using hown.1)
    subst hx
    by_cases hm : m = 0
    · subst hm
      have hn : news = [] := List.eq_nil_of_length_eq_zero (by simpa using hs.newsLen)
      subst hn
      refine ⟨.slice none 0 0, w, ?_, OwnA.nil w base i.size, Mod.refl _ _, Or.inl rfl⟩
      rcases hs.kind with ⟨e', hk⟩ | hk <;> simp [Builtin.append_, run_underlying ht, run_underlying hk, sizeOf, typeInfo, hi, hs.len, hs.cells]
    · have hr := run_append_grow_src (P := P) w t tx ty e i z ht hi hz none 0 0 [] (by simp [Builtin.firstCells]) x m news hs (by omega) (by omega) (growslice_fits (by omega) hbytes)
      have hgr := grown 0 (fun k => some k = Value.ownBlock (.slice none 0 0)) (by omega)
      exact ⟨_, _, hr, hgr.1, hgr.2, Or.inr rfl⟩
  · by_cases hroom : n + m ≤ cap
    · have hlt : ∀ j, j < news.length → 0 + n * i.size + j < cap * i.size := by
        intro j hj
        rw [hs.newsLen] at hj
        have : (n + m) * i.size ≤ cap * i.size := Nat.mul_le_mul_right _ hroom
        rw [Nat.add_mul] at this
        omega
      have hr := run_append_room_src (P := P) w t tx ty e i ht hi g 0 n cap x m news hs hroom (fun j hj => hc _ (hlt j hj)) (fun j hj => hf _ (hlt j hj))
      have hm : Mod (fun k => some k = Value.ownBlock (.slice (some ⟨g, 0, none⟩) n cap)) w (w.setCells g (0 + n * i.size) news) := mod_setCells g _ _ _ (Mod.refl _ w) (Or.inl rfl)
      have hin := World.cell?_setCells_in g news (0 + n * i.size) w (fun j hj => hc _ (hlt j hj))
      have hout := fun j (hj : j < 0 + n * i.size ∨ 0 + n * i.size + news.length ≤ j) => World.cell?_setCells_out g news (0 + n * i.size) w ⟨g, j, none⟩ (fun _ _ => hj)
      refine ⟨_, _, hr, ⟨hlen, .inr ⟨g, cap, rfl, hbg, Nat.lt_of_lt_of_le hgl hm.size, hroom, fun j hj => ?_, fun j hj => by rw [World.frozen?_setCells]; exact hf j hj, fun j u hj => ?_⟩⟩, hm, Or.inl rfl⟩
      · by_cases h : j < 0 + n * i.size ∨ 0 + n * i.size + news.length ≤ j
        · rw [hout j h]; exact hc j hj
        · have := hin (j - (0 + n * i.size)) (by omega)
          rw [show 0 + n * i.size + (j - (0 + n * i.size)) = j from by omega] at this
          rw [this]; rfl
      · rw [List.getElem?_append] at hj
        split at hj
        · rename_i h
          rw [hout j (Or.inl (by rw [hown.1] at h; omega))]
          exact hx j u hj
        · rename_i h
          obtain ⟨hk, hu⟩ := List.getElem?_eq_some_iff.1 hj
          rw [hown.1] at h
          have := hin (j - xs.length) hk
          rw [hu, show 0 + n * i.size + (j - xs.length) = j from by rw [hown.1]; omega] at this
          exact this
    · have hold : (Builtin.firstCells i.size n (.slice (some ⟨g, 0, none⟩) n cap)).run P w.drew = .ok xs.toArray w.drew :=
        run_firstCells_some w.drew i.size n ⟨g, 0, none⟩ n cap xs hown.1 (fun j u hj => by
          rw [show (⟨g, 0, none⟩ : Addr).add j = ⟨g, j, none⟩ from by unfold Addr.add; split <;> simp_all]; exact hx j u hj)
      have hr := run_append_grow_src (P := P) w t tx ty e i z ht hi hz (some ⟨g, 0, none⟩) n cap xs hold x m news hs (by omega) (by omega) (growslice_fits (by omega) hbytes)
      have hgr := grown cap (fun k => some k = Value.ownBlock (.slice (some ⟨g, 0, none⟩) n cap)) (by omega)
      exact ⟨_, _, hr, hgr.1, hgr.2, Or.inr rfl⟩

/-- 'append(s, x...)', wherever it stands: s the call's own -/
theorem op_append {P : Program} {w : World} {o : Oper} {a : Act} {K : Act → World → Prop} {Q : Exit → Act → World → Prop} (s x : Operand) (t tx : TypeId)
    (ho : o.op = .call { callee := .builtin .append, args := #[s, x], argTypes := #[t, tx] })
    (base : Nat) (e : TypeId) (z : Value) (size bytes : Nat) (ht : P.underlying t = some (.slice e)) (hi : (P.info? e).map (fun i => (i.zero, i.size, i.bytes)) = some (some z, size, bytes)) (hzs : z.cells.size = size) (hsz : 0 < size)
    (v : Value) (n : Nat) (xs : List Value) (hv : a.eval s = v) (hown : OwnA w base size v n xs) (X : Value) (m : Nat) (news : List Value) (hx : a.eval x = X) (hs : Src P size tx X m news w)
    (hbytes : (n + m) * bytes ≤ 140737488355328) (h63 : n + m ≤ 9223372036854775807) (hbase : base ≤ w.heap.size)
    (h : ∀ v' w', OwnA w' base size v' (n + m) (xs ++ news) → Mod (fun k => some k = v.ownBlock) w w' → (v'.ownBlock = v.ownBlock ∨ v'.ownBlock = some w.heap.size) → K (a.put o.dst v') w') : o.wp P a w K Q := by
  obtain ⟨i, hi0, hz0, hi1, hi2⟩ := info_parts hi
  obtain ⟨v', w', hr, h2, h3, h4⟩ := run_append_A (P := P) w base t tx o.type e i z size bytes ht hi0 hz0 hi1 hi2 hzs hsz v n xs hown X m news hs hbytes h63 hbase
  unfold Oper.wp execOp
  simp only [ho, resolve, invoke, builtin, Sem.run_bind, Sem.run_pure, Result.andThen_ok, List.map_toArray, List.map_cons, List.map_nil, hv, hx, hr]
  exact h v' w' h2 h3 h4
/-- the same, and where the row lies then -/
theorem wpl_appendB {P : Program} {w : World} {ops : Array Oper} {rest : List Oper} {o : Oper} {a : Act} {Q : Exit → Act → World → Prop} (hgd : o.guard = none) (s x : Operand) (t tx : TypeId)
    (ho : o.op = .call { callee := .builtin .append, args := #[s, x], argTypes := #[t, tx] })
    (base : Nat) (e : TypeId) (z : Value) (size bytes : Nat) (ht : P.underlying t = some (.slice e)) (hi : (P.info? e).map (fun i => (i.zero, i.size, i.bytes)) = some (some z, size, bytes)) (hzs : z.cells.size = size) (hsz : 0 < size)
    (v : Value) (n : Nat) (xs : List Value) (hv : a.eval s = v) (hown : OwnA w base size v n xs) (X : Value) (m : Nat) (news : List Value) (hx : a.eval x = X) (hs : Src P size tx X m news w)
    (hbytes : (n + m) * bytes ≤ 140737488355328) (h63 : n + m ≤ 9223372036854775807) (hbase : base ≤ w.heap.size)
    (h : ∀ v' w', OwnA w' base size v' (n + m) (xs ++ news) → Mod (fun k => some k = v.ownBlock) w w' → (v'.ownBlock = v.ownBlock ∨ v'.ownBlock = some w.heap.size) → wpList P ops Q rest (a.put o.dst v') w') : wpList P ops Q (o :: rest) a w :=
  wpList_plain hgd fun _ hK => op_append s x t tx ho base e z size bytes ht hi hzs hsz v n xs hv hown X m news hx hs hbytes h63 hbase fun v' w' h1 h2 h3 => hK _ _ (h v' w' h1 h2 h3)
/-- 'append(s, x...)': s the call's own -/
theorem wpl_append {P : Program} {w : World} {ops : Array Oper} {rest : List Oper} {o : Oper} {a : Act} {Q : Exit → Act → World → Prop} (hgd : o.guard = none) (s x : Operand) (t tx : TypeId)
    (ho : o.op = .call { callee := .builtin .append, args := #[s, x], argTypes := #[t, tx] })
    (base : Nat) (e : TypeId) (z : Value) (size bytes : Nat) (ht : P.underlying t = some (.slice e)) (hi : (P.info? e).map (fun i => (i.zero, i.size, i.bytes)) = some (some z, size, bytes)) (hzs : z.cells.size = size) (hsz : 0 < size)
    (v : Value) (n : Nat) (xs : List Value) (hv : a.eval s = v) (hown : OwnA w base size v n xs) (X : Value) (m : Nat) (news : List Value) (hx : a.eval x = X) (hs : Src P size tx X m news w)
    (hbytes : (n + m) * bytes ≤ 140737488355328) (h63 : n + m ≤ 9223372036854775807) (hbase : base ≤ w.heap.size)
    (h : ∀ v' w', OwnA w' base size v' (n + m) (xs ++ news) → Mod (fun k => some k = v.ownBlock) w w' → wpList P ops Q rest (a.put o.dst v') w') : wpList P ops Q (o :: rest) a w :=
  wpList_plain hgd fun _ hK => op_append s x t tx ho base e z size bytes ht hi hzs hsz v n xs hv hown X m news hx hs hbytes h63 hbase fun v' w' h1 h2 _ => hK _ _ (h v' w' h1 h2)

theorem OwnA.succ {w : World} {base size n : Nat} {v : Value} {xs : List Value} (h : OwnA w base size v (n + 1) xs) : ∃ g cap, v = .slice (some ⟨g, 0, none⟩) (n + 1) cap := by
  rcases h.2 with ⟨_, h0⟩ | ⟨g, cap, hv, _⟩
  · omega
  · exact ⟨g, cap, hv⟩
theorem OwnA.lt {w : World} {base size n : Nat} {v : Value} {xs : List Value} (h : OwnA w base size v n xs) : ∀ k, some k = v.ownBlock → base ≤ k ∧ k < w.heap.size := by
  intro k hk
  rcases h.2 with ⟨rfl, _⟩ | ⟨g, cap, rfl, hb, hg, _⟩
  · simp [Value.ownBlock] at hk
  · simp [Value.ownBlock] at hk
    subst hk
    exact ⟨hb, hg⟩
/-- what an append to what is new turns: nothing that was there -/
theorem OwnA.thenMod {w0 w w' : World} {S : Nat → Prop} {base size n : Nat} {v : Value} {xs : List Value} (h : OwnA w base size v n xs) (hm : Mod S w0 w) (hg : Mod (fun k => some k = v.ownBlock) w w') (hb : w0.heap.size ≤ base) : Mod S w0 w' :=
  hm.trans' hg fun k hk x => by have := (h.lt k x).1; omega
theorem OwnA.keep {w w' : World} {base size n b : Nat} {v : Value} {xs : List Value} (h : OwnA w base size v n xs) (hg : Mod (fun k => some k = v.ownBlock) w w') (hb : b < base) (hw : b < w.heap.size) : w'.heap[b]? = w.heap[b]? :=
  hg.block b hw fun x => by have := (h.lt b x).1; omega

theorem bc_append (l m : List UInt8) : bc (l ++ m) = bc l ++ bc m := List.map_append
theorem src_slAt {P : Program} {w : World} {tx e : TypeId} (hk : P.underlying tx = some (.slice e)) {Q : Nat → Prop} {a : Option Addr} {n c : Nat} {xs : List Value} (h : SlAt w Q (.slice a n c) xs) (hn : xs.length = n) (h1 : ∀ u ∈ xs, u.oneCell' = true) : Src P 1 tx (.slice a n c) n xs w := by
  rcases h with ⟨rfl, a', c', h⟩ | ⟨g, off, cap, h, _, _, _, hc⟩
  · obtain rfl : n = 0 := hn.symm
    cases a with
    | none => exact Src.ofNil _ hk c
    | some ad => exact Src.ofSlice _ hk ad 0 c [] rfl (fun j u hj => by simp at hj) h1
  · injection h with e1 e2 e3
    subst e1
    refine Src.ofSlice _ hk _ n c xs (by omega) (fun j u hj => ?_) h1
    rw [show (⟨g, off, none⟩ : Addr).add j = ⟨g, off + j, none⟩ from by unfold Addr.add; split <;> simp_all]
    exact hc j u hj
theorem src_string {P : Program} (w : World) {tx : TypeId} (hk : P.underlying tx = some .string) (s : ByteArray) : Src P 1 tx (.string s) s.size (bc s.data.toList) w := Src.ofString w hk s
/-- '[]byte(s)' is a row of the call's own -/
theorem conv_own {P : Program} (w : World) (src dst e : TypeId) (s : ByteArray) {u : TypeDesc}
    (hs : P.underlying src = some u) (hd : P.underlying dst = some (.slice e)) (he : P.underlying e = some (.int .u8)) :
    ∃ w' v, (convert src dst (.string s)).run P w = .ok v w' ∧ OwnA w' w.heap.size 1 v s.size (bc s.data.toList) ∧ Mod (fun _ => False) w w' := by
  have hN := Lib.bytesWorld_at_new w e s
  have hsz : (Lib.bytesCells w e s).size = grownCap w s.size 0 e := by
    have := grownCap_ge w s.size 0 e
    simp [Lib.bytesCells, Array.size_append, Array.size_map, Array.size_replicate]
    have h2 : s.data.size = s.size := rfl
    omega
  refine ⟨_, _, Lib.run_convert_string_bytes w src dst e s hs hd he, ⟨by rw [bc_length, Array.length_toList, Nat.mul_one]; rfl, .inr ⟨w.heap.size, _, rfl, Nat.le_refl _, by rw [Lib.bytesWorld_size]; omega, grownCap_ge _ _ _ _, fun j hj => ?_, fun j hj => ?_, fun j u hj => ?_⟩⟩, ⟨rfl, rfl, rfl, by rw [Lib.bytesWorld_size]; omega, fun k hk _ => Lib.bytesWorld_at_old w e s k hk⟩⟩
  · simp only [World.cell?, hN]
    rw [Nat.mul_one] at hj
    simp only [Option.isSome_none, Bool.false_eq_true, if_false]
    rw [Array.getElem?_eq_getElem (by omega)]; rfl
  · simp only [World.frozen?, hN]
    rw [Nat.mul_one] at hj
    simp
    omega
  · have hjl : j < s.size := by
      have := (List.getElem?_eq_some_iff.1 hj).1
      rw [bc_length, Array.length_toList] at this
      exact this
    rw [Lib.bytesWorld_cell w e s j hjl]
    rw [bc_get] at hj
    have h2 : j < s.data.toList.length := by rw [Array.length_toList]; exact hjl
    rw [List.getElem?_eq_getElem h2] at hj
    simp only [Option.map_some, Option.some.injEq] at hj
    rw [← hj, List.getD_eq_getElem?_getD, List.getElem?_eq_getElem h2]; rfl
/-- 'string(b)', b the call's own -/
theorem conv_ownS {P : Program} {w : World} (src dst e : TypeId) {base n : Nat} {v : Value} {l : List UInt8} (h : OwnA w base 1 v n (bc l))
    (hs : P.underlying src = some (.slice e)) (he : P.underlying e = some (.int .u8)) (hd : P.underlying dst = some .string) :
    (convert src dst v).run P w = .ok (.string (bs l)) w := by
  have hl : n = l.length := by have := h.1; rw [bc_length] at this; omega
  rcases h.2 with ⟨rfl, h0⟩ | ⟨g, cap, rfl, _, _, _, _, _, hc⟩
  · obtain rfl : l = [] := List.eq_nil_of_length_eq_zero (by omega)
    exact run_convert_bytes_nil w src e hs he 0 0 dst hd
  · refine conv_string w src dst e g 0 cap l n hl hs he hd fun j hj => ?_
    rw [Nat.zero_add]
    exact hc j _ (by rw [bc_get, List.getElem?_eq_getElem hj]; rfl)
end Go.Proofs.YtklpopmjpgdjnaaGreatDoor
namespace Go.Proofs.YtklpopmjpgdjnaaGreatDoor
open Go.RowKit

theorem info_byte : (Tryz.prog.info? 5).map (fun i => (i.zero, i.size, i.bytes)) = some (some (.int .u8 0), 1, 1) := by kernel_rfl

set_option maxHeartbeats 400000 in
theorem put_u8 (x n : Nat) (m : Int) (hm0 : m = n) (w : World) (_hx : x < 18446744073709551616) (hn : n ≤ 8) :
    Calls Tryz.prog 84 #[.int .u8 x, .int .i64 m] w fun e w' => e = .returned (.string (bs (leBytes n x))) ∧ Mod (fun _ => False) w w' := by
  subst hm0
  have hmk := make_row (P := Tryz.prog) 68 5 (.int .u8 0) 1 n Tryz.underlying68 info_byte rfl (by omega) (by unfold maxLen; omega)
  go_enter Tryz.func84, Tryz.ntmps84
  skip
  have H0 : Hid ((w.alloc (.cells (List.replicate n (.int .u8 0)).toArray 5)).heap[w.heap.size]? = some (.cells (List.replicate n (Value.int .u8 0)).toArray 5 (0, 0))) := new_at _ _
  have m0 : Mod (fun _ => False) w (w.alloc (.cells (List.replicate n (.int .u8 0)).toArray 5)) := (Mod.refl _ _).alloc _
  go_wp2
  go_loopw [11] (fun i wr => ∃ (k : Nat) (arr : Array Value), k ≤ n ∧ i = .int .i64 k ∧ Hid (wr.heap[w.heap.size]? = some (.cells arr 5 (0, 0))) ∧ Hid (arr.size = n ∧ ∀ j (h : j < (leBytes n x).length), j < k → arr[j]? = some (.int .u8 ((leBytes n x)[j]).toNat)) ∧ Mod (fun _ => False) w wr) (fun i _ => n - (intOf i).toNat)
  case atStart => exact ⟨0, _, Nat.zero_le _, rfl, H0, ⟨by simp, fun j _ hj => absurd hj (Nat.not_lt_zero _)⟩, m0⟩
  case round =>
    obtain ⟨k, arr, hk, rfl, HB, HA, mr⟩ := hrel
    by_cases hlt : k < n
    · have hsz : k < arr.size := by rw [HA.out.1]; exact hlt
      have hc : wr.cell? ⟨w.heap.size, k, none⟩ = some arr[k] := (cell_of HB.out k).trans (Array.getElem?_eq_getElem hsz)
      have hf : wr.frozen? ⟨w.heap.size, k, none⟩ = false := free_of HB.out k
      generalize arr[k] = old at hc
      have hv : Hid (((leBytes n x)[k]'(by rw [leBytes_length]; exact hlt)).toNat = x / 2 ^ (8 * k) % 256) := leBytes_get n x k (by rw [leBytes_length]; exact hlt)
      go_wp2
      go_roundw
      case rel =>
        refine ⟨k + 1, _, hlt, by go_num, heap_set HB.out k _, ⟨by rw [Array.size_setIfInBounds]; exact HA.out.1, fun j h hj => ?_⟩, mr.setCell (Or.inr (Nat.le_refl _)) _⟩
        rw [Array.getElem?_setIfInBounds]
        by_cases e : k = j
        · subst e
          rw [if_pos rfl, if_pos hsz, hv.out]
          congr 2
        · rw [if_neg e]; exact HA.out.2 j h (by omega)
      case measure => simp [intOf]; omega
    · have hcv := conv_string (P := Tryz.prog) wr 68 9 5 w.heap.size 0 n (leBytes n x) n (leBytes_length n x).symm Tryz.underlying68 Tryz.underlying5 Tryz.underlying9
        (fun j hj => by rw [Nat.zero_add, cell_of HB.out]; exact HA.out.2 j hj (by rw [leBytes_length] at hj; omega))
      go_wp2
      go_ret
      exact ⟨rfl, mr⟩
set_option maxHeartbeats 400000 in
theorem put_u16 (x n : Nat) (m : Int) (hm0 : m = n) (w : World) (_hx : x < 18446744073709551616) (hn : n ≤ 8) :
    Calls Tryz.prog 85 #[.int .u16 x, .int .i64 m] w fun e w' => e = .returned (.string (bs (leBytes n x))) ∧ Mod (fun _ => False) w w' := by
  subst hm0
  have hmk := make_row (P := Tryz.prog) 68 5 (.int .u8 0) 1 n Tryz.underlying68 info_byte rfl (by omega) (by unfold maxLen; omega)
  go_enter Tryz.func85, Tryz.ntmps85
  skip
  have H0 : Hid ((w.alloc (.cells (List.replicate n (.int .u8 0)).toArray 5)).heap[w.heap.size]? = some (.cells (List.replicate n (Value.int .u8 0)).toArray 5 (0, 0))) := new_at _ _
  have m0 : Mod (fun _ => False) w (w.alloc (.cells (List.replicate n (.int .u8 0)).toArray 5)) := (Mod.refl _ _).alloc _
  go_wp2
  go_loopw [11] (fun i wr => ∃ (k : Nat) (arr : Array Value), k ≤ n ∧ i = .int .i64 k ∧ Hid (wr.heap[w.heap.size]? = some (.cells arr 5 (0, 0))) ∧ Hid (arr.size = n ∧ ∀ j (h : j < (leBytes n x).length), j < k → arr[j]? = some (.int .u8 ((leBytes n x)[j]).toNat)) ∧ Mod (fun _ => False) w wr) (fun i _ => n - (intOf i).toNat)
  case atStart => exact ⟨0, _, Nat.zero_le _, rfl, H0, ⟨by simp, fun j _ hj => absurd hj (Nat.not_lt_zero _)⟩, m0⟩
  case round =>
    obtain ⟨k, arr, hk, rfl, HB, HA, mr⟩ := hrel
    by_cases hlt : k < n
    · have hsz : k < arr.size := by rw [HA.out.1]; exact hlt
      have hc : wr.cell? ⟨w.heap.size, k, none⟩ = some arr[k] := (cell_of HB.out k).trans (Array.getElem?_eq_getElem hsz)
      have hf : wr.frozen? ⟨w.heap.size, k, none⟩ = false := free_of HB.out k
      generalize arr[k] = old at hc
      have hv : Hid (((leBytes n x)[k]'(by rw [leBytes_length]; exact hlt)).toNat = x / 2 ^ (8 * k) % 256) := leBytes_get n x k (by rw [leBytes_length]; exact hlt)
      go_wp2
      go_roundw
      case rel =>
        refine ⟨k + 1, _, hlt, by go_num, heap_set HB.out k _, ⟨by rw [Array.size_setIfInBounds]; exact HA.out.1, fun j h hj => ?_⟩, mr.setCell (Or.inr (Nat.le_refl _)) _⟩
        rw [Array.getElem?_setIfInBounds]
        by_cases e : k = j
        · subst e
          rw [if_pos rfl, if_pos hsz, hv.out]
          congr 2
        · rw [if_neg e]; exact HA.out.2 j h (by omega)
      case measure => simp [intOf]; omega
    · have hcv := conv_string (P := Tryz.prog) wr 68 9 5 w.heap.size 0 n (leBytes n x) n (leBytes_length n x).symm Tryz.underlying68 Tryz.underlying5 Tryz.underlying9
        (fun j hj => by rw [Nat.zero_add, cell_of HB.out]; exact HA.out.2 j hj (by rw [leBytes_length] at hj; omega))
      go_wp2
      go_ret
      exact ⟨rfl, mr⟩
set_option maxHeartbeats 400000 in
theorem put_u32 (x n : Nat) (m : Int) (hm0 : m = n) (w : World) (_hx : x < 18446744073709551616) (hn : n ≤ 8) :
    Calls Tryz.prog 83 #[.int .u32 x, .int .i64 m] w fun e w' => e = .returned (.string (bs (leBytes n x))) ∧ Mod (fun _ => False) w w' := by
  subst hm0
  have hmk := make_row (P := Tryz.prog) 68 5 (.int .u8 0) 1 n Tryz.underlying68 info_byte rfl (by omega) (by unfold maxLen; omega)
  go_enter Tryz.func83, Tryz.ntmps83
  skip
  have H0 : Hid ((w.alloc (.cells (List.replicate n (.int .u8 0)).toArray 5)).heap[w.heap.size]? = some (.cells (List.replicate n (Value.int .u8 0)).toArray 5 (0, 0))) := new_at _ _
  have m0 : Mod (fun _ => False) w (w.alloc (.cells (List.replicate n (.int .u8 0)).toArray 5)) := (Mod.refl _ _).alloc _
  go_wp2
  go_loopw [11] (fun i wr => ∃ (k : Nat) (arr : Array Value), k ≤ n ∧ i = .int .i64 k ∧ Hid (wr.heap[w.heap.size]? = some (.cells arr 5 (0, 0))) ∧ Hid (arr.size = n ∧ ∀ j (h : j < (leBytes n x).length), j < k → arr[j]? = some (.int .u8 ((leBytes n x)[j]).toNat)) ∧ Mod (fun _ => False) w wr) (fun i _ => n - (intOf i).toNat)
  case atStart => exact ⟨0, _, Nat.zero_le _, rfl, H0, ⟨by simp, fun j _ hj => absurd hj (Nat.not_lt_zero _)⟩, m0⟩
  case round =>
    obtain ⟨k, arr, hk, rfl, HB, HA, mr⟩ := hrel
    by_cases hlt : k < n
    · have hsz : k < arr.size := by rw [HA.out.1]; exact hlt
      have hc : wr.cell? ⟨w.heap.size, k, none⟩ = some arr[k] := (cell_of HB.out k).trans (Array.getElem?_eq_getElem hsz)
      have hf : wr.frozen? ⟨w.heap.size, k, none⟩ = false := free_of HB.out k
      generalize arr[k] = old at hc
      have hv : Hid (((leBytes n x)[k]'(by rw [leBytes_length]; exact hlt)).toNat = x / 2 ^ (8 * k) % 256) := leBytes_get n x k (by rw [leBytes_length]; exact hlt)
      go_wp2
      go_roundw
      case rel =>
        refine ⟨k + 1, _, hlt, by go_num, heap_set HB.out k _, ⟨by rw [Array.size_setIfInBounds]; exact HA.out.1, fun j h hj => ?_⟩, mr.setCell (Or.inr (Nat.le_refl _)) _⟩
        rw [Array.getElem?_setIfInBounds]
        by_cases e : k = j
        · subst e
          rw [if_pos rfl, if_pos hsz, hv.out]
          congr 2
        · rw [if_neg e]; exact HA.out.2 j h (by omega)
      case measure => simp [intOf]; omega
    · have hcv := conv_string (P := Tryz.prog) wr 68 9 5 w.heap.size 0 n (leBytes n x) n (leBytes_length n x).symm Tryz.underlying68 Tryz.underlying5 Tryz.underlying9
        (fun j hj => by rw [Nat.zero_add, cell_of HB.out]; exact HA.out.2 j hj (by rw [leBytes_length] at hj; omega))
      go_wp2
      go_ret
      exact ⟨rfl, mr⟩
set_option maxHeartbeats 400000 in
theorem put_u64 (x n : Nat) (m : Int) (hm0 : m = n) (w : World) (_hx : x < 18446744073709551616) (hn : n ≤ 8) :
    Calls Tryz.prog 138 #[.int .u64 x, .int .i64 m] w fun e w' => e = .returned (.string (bs (leBytes n x))) ∧ Mod (fun _ => False) w w' := by
  subst hm0
  have hmk := make_row (P := Tryz.prog) 68 5 (.int .u8 0) 1 n Tryz.underlying68 info_byte rfl (by omega) (by unfold maxLen; omega)
  go_enter Tryz.func138, Tryz.ntmps138
  skip
  have H0 : Hid ((w.alloc (.cells (List.replicate n (.int .u8 0)).toArray 5)).heap[w.heap.size]? = some (.cells (List.replicate n (Value.int .u8 0)).toArray 5 (0, 0))) := new_at _ _
  have m0 : Mod (fun _ => False) w (w.alloc (.cells (List.replicate n (.int .u8 0)).toArray 5)) := (Mod.refl _ _).alloc _
  go_wp2
  go_loopw [11] (fun i wr => ∃ (k : Nat) (arr : Array Value), k ≤ n ∧ i = .int .i64 k ∧ Hid (wr.heap[w.heap.size]? = some (.cells arr 5 (0, 0))) ∧ Hid (arr.size = n ∧ ∀ j (h : j < (leBytes n x).length), j < k → arr[j]? = some (.int .u8 ((leBytes n x)[j]).toNat)) ∧ Mod (fun _ => False) w wr) (fun i _ => n - (intOf i).toNat)
  case atStart => exact ⟨0, _, Nat.zero_le _, rfl, H0, ⟨by simp, fun j _ hj => absurd hj (Nat.not_lt_zero _)⟩, m0⟩
  case round =>
    obtain ⟨k, arr, hk, rfl, HB, HA, mr⟩ := hrel
    by_cases hlt : k < n
    · have hsz : k < arr.size := by rw [HA.out.1]; exact hlt
      have hc : wr.cell? ⟨w.heap.size, k, none⟩ = some arr[k] := (cell_of HB.out k).trans (Array.getElem?_eq_getElem hsz)
      have hf : wr.frozen? ⟨w.heap.size, k, none⟩ = false := free_of HB.out k
      generalize arr[k] = old at hc
      have hv : Hid (((leBytes n x)[k]'(by rw [leBytes_length]; exact hlt)).toNat = x / 2 ^ (8 * k) % 256) := leBytes_get n x k (by rw [leBytes_length]; exact hlt)
      go_wp2
      go_roundw
      case rel =>
        refine ⟨k + 1, _, hlt, by go_num, heap_set HB.out k _, ⟨by rw [Array.size_setIfInBounds]; exact HA.out.1, fun j h hj => ?_⟩, mr.setCell (Or.inr (Nat.le_refl _)) _⟩
        rw [Array.getElem?_setIfInBounds]
        by_cases e : k = j
        · subst e
          rw [if_pos rfl, if_pos hsz, hv.out]
          congr 2
        · rw [if_neg e]; exact HA.out.2 j h (by omega)
      case measure => simp [intOf]; omega
    · have hcv := conv_string (P := Tryz.prog) wr 68 9 5 w.heap.size 0 n (leBytes n x) n (leBytes_length n x).symm Tryz.underlying68 Tryz.underlying5 Tryz.underlying9
        (fun j hj => by rw [Nat.zero_add, cell_of HB.out]; exact HA.out.2 j hj (by rw [leBytes_length] at hj; omega))
      go_wp2
      go_ret
      exact ⟨rfl, mr⟩
set_option maxHeartbeats 400000 in
theorem wU8_x (x : Nat) (w : World) (hx : x < 18446744073709551616) :
    Calls Tryz.prog 42 #[.int .u8 x] w fun e w' => e = .returned (.string (bs (leBytes 1 x))) ∧ Mod (fun _ => False) w w' := by
  go_enter Tryz.func42, Tryz.ntmps42
  go_wp2_with fail
  refine (put_u8 x 1 _ rfl _ hx (by omega)).mono ?_
  rintro e w1 ⟨rfl, m1⟩
  go_wp2
  go_ret
  exact ⟨rfl, m1⟩
theorem wU8 (x : Nat) (X : Int) (hX : X = (x : Int) % 256) (w : World) :
    Calls Tryz.prog 42 #[.int .u8 X] w fun e w' => e = .returned (.string (bs (leBytes 1 x))) ∧ Mod (fun _ => False) w w' := by
  obtain rfl : X = ((x % 256 : Nat) : Int) := by omega
  have h := wU8_x (x % 256) w (by have := Nat.mod_lt x (show 0 < 256 by omega); omega)
  rw [show leBytes 1 (x % 256) = leBytes 1 x from leBytes_mod 1 x] at h
  exact h
set_option maxHeartbeats 400000 in
theorem wU16_x (x : Nat) (w : World) (hx : x < 18446744073709551616) :
    Calls Tryz.prog 43 #[.int .u16 x] w fun e w' => e = .returned (.string (bs (leBytes 2 x))) ∧ Mod (fun _ => False) w w' := by
  go_enter Tryz.func43, Tryz.ntmps43
  go_wp2_with fail
  refine (put_u16 x 2 _ rfl _ hx (by omega)).mono ?_
  rintro e w1 ⟨rfl, m1⟩
  go_wp2
  go_ret
  exact ⟨rfl, m1⟩
theorem wU16 (x : Nat) (X : Int) (hX : X = (x : Int) % 65536) (w : World) :
    Calls Tryz.prog 43 #[.int .u16 X] w fun e w' => e = .returned (.string (bs (leBytes 2 x))) ∧ Mod (fun _ => False) w w' := by
  obtain rfl : X = ((x % 65536 : Nat) : Int) := by omega
  have h := wU16_x (x % 65536) w (by have := Nat.mod_lt x (show 0 < 65536 by omega); omega)
  rw [show leBytes 2 (x % 65536) = leBytes 2 x from leBytes_mod 2 x] at h
  exact h
set_option maxHeartbeats 400000 in
theorem wU32_x (x : Nat) (w : World) (hx : x < 18446744073709551616) :
    Calls Tryz.prog 41 #[.int .u32 x] w fun e w' => e = .returned (.string (bs (leBytes 4 x))) ∧ Mod (fun _ => False) w w' := by
  go_enter Tryz.func41, Tryz.ntmps41
  go_wp2_with fail
  refine (put_u32 x 4 _ rfl _ hx (by omega)).mono ?_
  rintro e w1 ⟨rfl, m1⟩
  go_wp2
  go_ret
  exact ⟨rfl, m1⟩
theorem wU32 (x : Nat) (X : Int) (hX : X = (x : Int) % 4294967296) (w : World) :
    Calls Tryz.prog 41 #[.int .u32 X] w fun e w' => e = .returned (.string (bs (leBytes 4 x))) ∧ Mod (fun _ => False) w w' := by
  obtain rfl : X = ((x % 4294967296 : Nat) : Int) := by omega
  have h := wU32_x (x % 4294967296) w (by have := Nat.mod_lt x (show 0 < 4294967296 by omega); omega)
  rw [show leBytes 4 (x % 4294967296) = leBytes 4 x from leBytes_mod 4 x] at h
  exact h
set_option maxHeartbeats 400000 in
theorem wU64_x (x : Nat) (w : World) (hx : x < 18446744073709551616) :
    Calls Tryz.prog 120 #[.int .u64 x] w fun e w' => e = .returned (.string (bs (leBytes 8 x))) ∧ Mod (fun _ => False) w w' := by
  go_enter Tryz.func120, Tryz.ntmps120
  go_wp2_with fail
  refine (put_u64 x 8 _ rfl _ hx (by omega)).mono ?_
  rintro e w1 ⟨rfl, m1⟩
  go_wp2
  go_ret
  exact ⟨rfl, m1⟩
theorem wU64 (x : Nat) (X : Int) (hX : X = (x : Int) % 18446744073709551616) (w : World) :
    Calls Tryz.prog 120 #[.int .u64 X] w fun e w' => e = .returned (.string (bs (leBytes 8 x))) ∧ Mod (fun _ => False) w w' := by
  obtain rfl : X = ((x % 18446744073709551616 : Nat) : Int) := by omega
  have h := wU64_x (x % 18446744073709551616) w (by have := Nat.mod_lt x (show 0 < 18446744073709551616 by omega); omega)
  rw [show leBytes 8 (x % 18446744073709551616) = leBytes 8 x from leBytes_mod 8 x] at h
  exact h

/-- a text with its length ahead -/
def wText (s : ByteArray) : ByteArray × Int := if 65535 < s.size then (ByteArray.empty, 4) else (bs (leBytes 2 s.size ++ s.data.toList), 0)

set_option maxHeartbeats 400000 in
theorem text_w (s : ByteArray) (w : World) (hs : s.size ≤ maxLen) :
    Calls Tryz.prog 115 #[.string s] w fun e w' => e = .returned (.tuple #[.string (wText s).1, .int .i64 (wText s).2]) ∧ Mod (fun _ => False) w w' := by
  unfold maxLen at hs
  have HW : Hid (wText s = if 65535 < s.size then (ByteArray.empty, 4) else (bs (leBytes 2 s.size ++ s.data.toList), 0)) := rfl
  by_cases h : 65535 < s.size
  · go_enter Tryz.func115, Tryz.ntmps115
    go_wp2
    go_ret2
    refine ⟨?_, Mod.refl _ _⟩
    rw [HW.out, if_pos h]; rfl
  · go_enter Tryz.func115, Tryz.ntmps115
    go_wp2_with fail
    refine (wU16 s.size _ (by omega) _).mono ?_
    rintro e w1 ⟨rfl, m1⟩
    have hb : (bs (leBytes 2 s.size)).size ≤ 2 := by rw [bs_size, leBytes_length]; exact Nat.le_refl _
    rw [bs_cat, bs_of] at HW
    generalize bs (leBytes 2 s.size) = t at *
    go_wp2
    go_ret2
    refine ⟨?_, m1⟩
    rw [HW.out, if_neg h]
    rfl
/-- a text in so many bytes -/
def wPad (s : ByteArray) (n : Int) : ByteArray × Int :=
  if n < 4 then (ByteArray.empty, 2) else if n - 4 < s.size then (ByteArray.empty, 4)
  else (bs (leBytes 4 s.size ++ s.data.toList ++ List.replicate (n.toNat - 4 - s.size) 0), 0)

theorem size_u8 : (Tryz.prog.info? 5).map (·.size) = some 1 := by kernel_rfl

end Go.Proofs.YtklpopmjpgdjnaaGreatDoor
namespace Go.Proofs.YtklpopmjpgdjnaaGreatDoor
open Go.RowKit

/-- a reader in memory -/
def rdObj (s : ByteArray) (at_ : Nat) (f : Int) : Obj := .cells #[.string s, .int .i64 at_, .int .i64 f, .bool true] 89 (0, 0)

def rdO (r : Rd) : Obj := rdObj r.s r.at_ r.f


set_option maxHeartbeats 400000 in
theorem rd_bytes_nil (n : Int) (w : World) :
    Calls Tryz.prog 91 #[.pointer none, .int .i64 n] w fun e w' => e = .returned (.string ByteArray.empty) ∧ w = w' := by
  go_enter Tryz.func91, Tryz.ntmps91
  go_wp2
  go_ret
  exact ⟨rfl, rfl⟩

set_option maxHeartbeats 400000 in
theorem bytes_fault (b : Nat) (s : ByteArray) (at_ : Nat) (f n : Int) (w : World) (h : w.heap[b]? = some (rdObj s at_ f)) (hf : (f != 0) = true) :
    Calls Tryz.prog 91 #[.pointer (some ⟨b, 0, none⟩), .int .i64 n] w fun e w' => e = .returned (.string ByteArray.empty) ∧ w = w' := by
  have c0 : w.cell? ⟨b, 0, none⟩ = some (.string s) := (cell_of h 0).trans rfl
  have c1 : w.cell? ⟨b, 1, none⟩ = some (.int .i64 at_) := (cell_of h 1).trans rfl
  have c2 : w.cell? ⟨b, 2, none⟩ = some (.int .i64 f) := (cell_of h 2).trans rfl
  have c3 : w.cell? ⟨b, 3, none⟩ = some (.bool true) := (cell_of h 3).trans rfl
  have f1 : w.frozen? ⟨b, 1, none⟩ = false := free_of h 1
  have f2 : w.frozen? ⟨b, 2, none⟩ = false := free_of h 2
  have H := Lib.hid h; clear h
  go_enter Tryz.func91, Tryz.ntmps91
  go_wp2
  go_ret
  exact ⟨rfl, rfl⟩

set_option maxHeartbeats 400000 in
theorem bytes_neg (b : Nat) (s : ByteArray) (at_ : Nat) (n : Int) (w : World) (h : w.heap[b]? = some (rdObj s at_ 0)) (hn : n < 0) :
    Calls Tryz.prog 91 #[.pointer (some ⟨b, 0, none⟩), .int .i64 n] w fun e w' => e = .returned (.string ByteArray.empty) ∧ w'.heap[b]? = some (rdObj s at_ 2) ∧ Mod (· = b) w w' := by
  have c0 : w.cell? ⟨b, 0, none⟩ = some (.string s) := (cell_of h 0).trans rfl
  have c1 : w.cell? ⟨b, 1, none⟩ = some (.int .i64 at_) := (cell_of h 1).trans rfl
  have c2 : w.cell? ⟨b, 2, none⟩ = some (.int .i64 0) := (cell_of h 2).trans rfl
  have c3 : w.cell? ⟨b, 3, none⟩ = some (.bool true) := (cell_of h 3).trans rfl
  have f1 : w.frozen? ⟨b, 1, none⟩ = false := free_of h 1
  have f2 : w.frozen? ⟨b, 2, none⟩ = false := free_of h 2
  have H := Lib.hid h; clear h
  go_enter Tryz.func91, Tryz.ntmps91
  go_wp2
  go_ret
  exact ⟨rfl, heap_set H.out 2 _, Mod.set1 _ _ _ _⟩

set_option maxHeartbeats 400000 in
theorem bytes_short (b : Nat) (s : ByteArray) (at_ n : Nat) (w : World) (h : w.heap[b]? = some (rdObj s at_ 0)) (hs : s.size ≤ maxLen) (hat : at_ ≤ s.size) (hn : (s.size : Int) - at_ < n) :
    Calls Tryz.prog 91 #[.pointer (some ⟨b, 0, none⟩), .int .i64 n] w fun e w' => e = .returned (.string ByteArray.empty) ∧ w'.heap[b]? = some (rdObj s at_ 50) ∧ Mod (· = b) w w' := by
  unfold maxLen at hs
  have c0 : w.cell? ⟨b, 0, none⟩ = some (.string s) := (cell_of h 0).trans rfl
  have c1 : w.cell? ⟨b, 1, none⟩ = some (.int .i64 at_) := (cell_of h 1).trans rfl
  have c2 : w.cell? ⟨b, 2, none⟩ = some (.int .i64 0) := (cell_of h 2).trans rfl
  have c3 : w.cell? ⟨b, 3, none⟩ = some (.bool true) := (cell_of h 3).trans rfl
  have f1 : w.frozen? ⟨b, 1, none⟩ = false := free_of h 1
  have f2 : w.frozen? ⟨b, 2, none⟩ = false := free_of h 2
  have H := Lib.hid h; clear h
  go_enter Tryz.func91, Tryz.ntmps91
  go_wp2
  go_quiet (fail)
  go_wp2
  go_ret
  exact ⟨rfl, heap_set (H.out : w.heap[b]? = _) 2 _, (Mod.set1 _ _ _ _).drewN _⟩

set_option maxHeartbeats 400000 in
theorem bytes_ok (b : Nat) (s : ByteArray) (at_ n : Nat) (w : World) (h : w.heap[b]? = some (rdObj s at_ 0)) (hs : s.size ≤ maxLen) (hn : at_ + n ≤ s.size) :
    Calls Tryz.prog 91 #[.pointer (some ⟨b, 0, none⟩), .int .i64 n] w fun e w' => e = .returned (.string (s.extract at_ (at_ + n))) ∧ w'.heap[b]? = some (rdObj s (at_ + n) 0) ∧ Mod (· = b) w w' := by
  unfold maxLen at hs
  have c0 : w.cell? ⟨b, 0, none⟩ = some (.string s) := (cell_of h 0).trans rfl
  have c1 : w.cell? ⟨b, 1, none⟩ = some (.int .i64 at_) := (cell_of h 1).trans rfl
  have c2 : w.cell? ⟨b, 2, none⟩ = some (.int .i64 0) := (cell_of h 2).trans rfl
  have c3 : w.cell? ⟨b, 3, none⟩ = some (.bool true) := (cell_of h 3).trans rfl
  have f1 : w.frozen? ⟨b, 1, none⟩ = false := free_of h 1
  have f2 : w.frozen? ⟨b, 2, none⟩ = false := free_of h 2
  have H := Lib.hid h; clear h
  go_enter Tryz.func91, Tryz.ntmps91
  go_wp2
  go_quiet (fail)
  go_wp2
  go_quiet (fail)
  go_wp2
  go_ret
  exact ⟨rfl, heap_set (H.out : w.heap[b]? = _) 1 _, ((Mod.set1 _ _ _ _).drewN _).drewN _⟩

/-- any call of Bytes -/
theorem bytes_any (b : Nat) (r : Rd) (n : Int) (w : World) (h : w.heap[b]? = some (rdO r)) (hs : r.s.size ≤ maxLen) (hat : r.at_ ≤ r.s.size) :
    Calls Tryz.prog 91 #[.pointer (some ⟨b, 0, none⟩), .int .i64 n] w fun e w' => e = .returned (.string (r.bytes n).1) ∧ w'.heap[b]? = some (rdO (r.bytes n).2) ∧ Mod (· = b) w w' := by
  unfold Rd.bytes
  by_cases h1 : r.f = 0
  · rw [if_neg (by omega)]
    obtain ⟨s, at_, f⟩ := r
    obtain rfl : f = 0 := h1
    by_cases h2 : n < 0
    · rw [if_pos h2]
      exact bytes_neg b s at_ n w h h2
    · rw [if_neg h2]
      obtain ⟨k, rfl⟩ := Int.eq_ofNat_of_zero_le (Int.not_lt.1 h2)
      by_cases h3 : s.size < at_ + k
      · rw [if_pos (by simp only [Int.toNat_natCast]; omega)]
        exact bytes_short b s at_ k w h hs hat (by omega)
      · rw [if_neg (by simp only [Int.toNat_natCast]; omega)]
        exact bytes_ok b s at_ k w h hs (by omega)
  · rw [if_pos h1]
    exact (bytes_fault b r.s r.at_ r.f n w h (by simpa using h1)).mono fun e w' ⟨he, hw⟩ => ⟨he, hw ▸ h, hw ▸ Mod.refl _ _⟩

set_option maxHeartbeats 400000 in
theorem get_uint8 (b : Nat) (r : Rd) (w : World) (h : w.heap[b]? = some (rdO r)) (hs : r.s.size ≤ maxLen) (hat : r.at_ ≤ r.s.size) :
    Calls Tryz.prog 50 #[.pointer (some ⟨b, 0, none⟩), .int .i64 1] w fun e w' => e = .returned (.int .u8 (r.num 1).1) ∧ w'.heap[b]? = some (rdO (r.num 1).2) ∧ Mod (· = b) w w' := by
  go_enter Tryz.func50, Tryz.ntmps50
  go_wp2_with fail
  refine (bytes_any b r 1 _ h hs hat).mono ?_
  rintro e w1 ⟨rfl, h1, m1⟩
  have hsz : (r.bytes (1 : Nat)).1.size ≤ 1 := Rd.bytes_size_le r 1
  have e0 : r.bytes ((1 : Nat) : Int) = r.bytes (1 : Int) := rfl
  rw [e0] at hsz
  have HN : Hid ((r.num 1).1 = leNat (r.bytes 1).1.data.toList ∧ (r.num 1).2 = (r.bytes 1).2) := ⟨rfl, rfl⟩
  generalize hT : (r.bytes 1).1 = t at *
  have hlt := leNat_lt t.data.toList
  have HL : Hid ((leNat t.data.toList : Int) = IntKind.u8.wrap (leNat t.data.toList)) := by
    have : t.data.toList.length ≤ 1 := by rw [Array.length_toList]; exact hsz
    have : (2 : Nat) ^ (8 * t.data.toList.length) ≤ 2 ^ (8 * 1) := Nat.pow_le_pow_right (by omega) (by omega)
    show _ = _
    rw [IntKind.wrap_u8]
    omega
  clear hlt
  obtain ⟨w2, c, hk, hcell, hm2, hlt⟩ := conv_bytes (P := Tryz.prog) w1 9 68 5 t Tryz.underlying9 Tryz.underlying68 Tryz.underlying5
  have HC := Lib.hid hcell; clear hcell
  have H1 := Lib.hid h1; clear h1
  clear hT e0 h
  generalize hY : (r.bytes 1).2 = y at *
  clear hY
  have htk := lt_of H1.out
  go_wp2
  go_loop [5, 13] (fun x i => ∃ k : Nat, k ≤ t.size ∧ i = .int .i64 k ∧ x = .int .u64 (leNat (t.data.toList.take k))) (fun _ i => t.size - (intOf i).toNat)
  case atStart => exact ⟨0, Nat.zero_le _, rfl, rfl⟩
  case round =>
    obtain ⟨k, hk, rfl, rfl⟩ := hrel
    by_cases hlt : k < t.size
    · have hc := HC.out k hlt
      go_wp2
      go_round
      case rel => exact ⟨k + 1, hlt, by go_num, by rw [le_round t k hlt (by omega)]⟩
      case measure => simp [intOf]; omega
    · go_wp2
      go_ret
      refine ⟨?_, by rw [hm2.block b htk (fun x => x), HN.out.2]; exact H1.out, m1.trans (hm2.mono fun _ _ x => x.elim)⟩
      refine ret_int ?_
      have hl := HL.out
      rw [show k = t.size from by omega, take_all, HN.out.1]
      all_goals (generalize leNat t.data.toList = q at *; first | exact hl.symm | (rw [IntKind.wrap_u8] at hl; exact hl.symm))
set_option maxHeartbeats 400000 in
theorem get_uint16 (b : Nat) (r : Rd) (w : World) (h : w.heap[b]? = some (rdO r)) (hs : r.s.size ≤ maxLen) (hat : r.at_ ≤ r.s.size) :
    Calls Tryz.prog 51 #[.pointer (some ⟨b, 0, none⟩), .int .i64 2] w fun e w' => e = .returned (.int .u16 (r.num 2).1) ∧ w'.heap[b]? = some (rdO (r.num 2).2) ∧ Mod (· = b) w w' := by
  go_enter Tryz.func51, Tryz.ntmps51
  go_wp2_with fail
  refine (bytes_any b r 2 _ h hs hat).mono ?_
  rintro e w1 ⟨rfl, h1, m1⟩
  have hsz : (r.bytes (2 : Nat)).1.size ≤ 2 := Rd.bytes_size_le r 2
  have e0 : r.bytes ((2 : Nat) : Int) = r.bytes (2 : Int) := rfl
  rw [e0] at hsz
  have HN : Hid ((r.num 2).1 = leNat (r.bytes 2).1.data.toList ∧ (r.num 2).2 = (r.bytes 2).2) := ⟨rfl, rfl⟩
  generalize hT : (r.bytes 2).1 = t at *
  have hlt := leNat_lt t.data.toList
  have HL : Hid ((leNat t.data.toList : Int) = IntKind.u16.wrap (leNat t.data.toList)) := by
    have : t.data.toList.length ≤ 2 := by rw [Array.length_toList]; exact hsz
    have : (2 : Nat) ^ (8 * t.data.toList.length) ≤ 2 ^ (8 * 2) := Nat.pow_le_pow_right (by omega) (by omega)
    show _ = _
    rw [IntKind.wrap_u16]
    omega
  clear hlt
  obtain ⟨w2, c, hk, hcell, hm2, hlt⟩ := conv_bytes (P := Tryz.prog) w1 9 68 5 t Tryz.underlying9 Tryz.underlying68 Tryz.underlying5
  have HC := Lib.hid hcell; clear hcell
  have H1 := Lib.hid h1; clear h1
  clear hT e0 h
  generalize hY : (r.bytes 2).2 = y at *
  clear hY
  have htk := lt_of H1.out
  go_wp2
  go_loop [5, 13] (fun x i => ∃ k : Nat, k ≤ t.size ∧ i = .int .i64 k ∧ x = .int .u64 (leNat (t.data.toList.take k))) (fun _ i => t.size - (intOf i).toNat)
  case atStart => exact ⟨0, Nat.zero_le _, rfl, rfl⟩
  case round =>
    obtain ⟨k, hk, rfl, rfl⟩ := hrel
    by_cases hlt : k < t.size
    · have hc := HC.out k hlt
      go_wp2
      go_round
      case rel => exact ⟨k + 1, hlt, by go_num, by rw [le_round t k hlt (by omega)]⟩
      case measure => simp [intOf]; omega
    · go_wp2
      go_ret
      refine ⟨?_, by rw [hm2.block b htk (fun x => x), HN.out.2]; exact H1.out, m1.trans (hm2.mono fun _ _ x => x.elim)⟩
      refine ret_int ?_
      have hl := HL.out
      rw [show k = t.size from by omega, take_all, HN.out.1]
      all_goals (generalize leNat t.data.toList = q at *; first | exact hl.symm | (rw [IntKind.wrap_u16] at hl; exact hl.symm))
set_option maxHeartbeats 400000 in
theorem get_uint32 (b : Nat) (r : Rd) (w : World) (h : w.heap[b]? = some (rdO r)) (hs : r.s.size ≤ maxLen) (hat : r.at_ ≤ r.s.size) :
    Calls Tryz.prog 49 #[.pointer (some ⟨b, 0, none⟩), .int .i64 4] w fun e w' => e = .returned (.int .u32 (r.num 4).1) ∧ w'.heap[b]? = some (rdO (r.num 4).2) ∧ Mod (· = b) w w' := by
  go_enter Tryz.func49, Tryz.ntmps49
  go_wp2_with fail
  refine (bytes_any b r 4 _ h hs hat).mono ?_
  rintro e w1 ⟨rfl, h1, m1⟩
  have hsz : (r.bytes (4 : Nat)).1.size ≤ 4 := Rd.bytes_size_le r 4
  have e0 : r.bytes ((4 : Nat) : Int) = r.bytes (4 : Int) := rfl
  rw [e0] at hsz
  have HN : Hid ((r.num 4).1 = leNat (r.bytes 4).1.data.toList ∧ (r.num 4).2 = (r.bytes 4).2) := ⟨rfl, rfl⟩
  generalize hT : (r.bytes 4).1 = t at *
  have hlt := leNat_lt t.data.toList
  have HL : Hid ((leNat t.data.toList : Int) = IntKind.u32.wrap (leNat t.data.toList)) := by
    have : t.data.toList.length ≤ 4 := by rw [Array.length_toList]; exact hsz
    have : (2 : Nat) ^ (8 * t.data.toList.length) ≤ 2 ^ (8 * 4) := Nat.pow_le_pow_right (by omega) (by omega)
    show _ = _
    rw [IntKind.wrap_u32]
    omega
  clear hlt
  obtain ⟨w2, c, hk, hcell, hm2, hlt⟩ := conv_bytes (P := Tryz.prog) w1 9 68 5 t Tryz.underlying9 Tryz.underlying68 Tryz.underlying5
  have HC := Lib.hid hcell; clear hcell
  have H1 := Lib.hid h1; clear h1
  clear hT e0 h
  generalize hY : (r.bytes 4).2 = y at *
  clear hY
  have htk := lt_of H1.out
  go_wp2
  go_loop [5, 13] (fun x i => ∃ k : Nat, k ≤ t.size ∧ i = .int .i64 k ∧ x = .int .u64 (leNat (t.data.toList.take k))) (fun _ i => t.size - (intOf i).toNat)
  case atStart => exact ⟨0, Nat.zero_le _, rfl, rfl⟩
  case round =>
    obtain ⟨k, hk, rfl, rfl⟩ := hrel
    by_cases hlt : k < t.size
    · have hc := HC.out k hlt
      go_wp2
      go_round
      case rel => exact ⟨k + 1, hlt, by go_num, by rw [le_round t k hlt (by omega)]⟩
      case measure => simp [intOf]; omega
    · go_wp2
      go_ret
      refine ⟨?_, by rw [hm2.block b htk (fun x => x), HN.out.2]; exact H1.out, m1.trans (hm2.mono fun _ _ x => x.elim)⟩
      refine ret_int ?_
      have hl := HL.out
      rw [show k = t.size from by omega, take_all, HN.out.1]
      all_goals (generalize leNat t.data.toList = q at *; first | exact hl.symm | (rw [IntKind.wrap_u32] at hl; exact hl.symm))
set_option maxHeartbeats 400000 in
theorem get_uint64 (b : Nat) (r : Rd) (w : World) (h : w.heap[b]? = some (rdO r)) (hs : r.s.size ≤ maxLen) (hat : r.at_ ≤ r.s.size) :
    Calls Tryz.prog 139 #[.pointer (some ⟨b, 0, none⟩), .int .i64 8] w fun e w' => e = .returned (.int .u64 (r.num 8).1) ∧ w'.heap[b]? = some (rdO (r.num 8).2) ∧ Mod (· = b) w w' := by
  go_enter Tryz.func139, Tryz.ntmps139
  go_wp2_with fail
  refine (bytes_any b r 8 _ h hs hat).mono ?_
  rintro e w1 ⟨rfl, h1, m1⟩
  have hsz : (r.bytes (8 : Nat)).1.size ≤ 8 := Rd.bytes_size_le r 8
  have e0 : r.bytes ((8 : Nat) : Int) = r.bytes (8 : Int) := rfl
  rw [e0] at hsz
  have HN : Hid ((r.num 8).1 = leNat (r.bytes 8).1.data.toList ∧ (r.num 8).2 = (r.bytes 8).2) := ⟨rfl, rfl⟩
  generalize hT : (r.bytes 8).1 = t at *
  have hlt := leNat_lt t.data.toList
  have HL : Hid ((leNat t.data.toList : Int) = IntKind.u64.wrap (leNat t.data.toList)) := by
    have : t.data.toList.length ≤ 8 := by rw [Array.length_toList]; exact hsz
    have : (2 : Nat) ^ (8 * t.data.toList.length) ≤ 2 ^ (8 * 8) := Nat.pow_le_pow_right (by omega) (by omega)
    show _ = _
    rw [IntKind.wrap_u64]
    omega
  clear hlt
  obtain ⟨w2, c, hk, hcell, hm2, hlt⟩ := conv_bytes (P := Tryz.prog) w1 9 68 5 t Tryz.underlying9 Tryz.underlying68 Tryz.underlying5
  have HC := Lib.hid hcell; clear hcell
  have H1 := Lib.hid h1; clear h1
  clear hT e0 h
  generalize hY : (r.bytes 8).2 = y at *
  clear hY
  have htk := lt_of H1.out
  go_wp2
  go_loop [5, 13] (fun x i => ∃ k : Nat, k ≤ t.size ∧ i = .int .i64 k ∧ x = .int .u64 (leNat (t.data.toList.take k))) (fun _ i => t.size - (intOf i).toNat)
  case atStart => exact ⟨0, Nat.zero_le _, rfl, rfl⟩
  case round =>
    obtain ⟨k, hk, rfl, rfl⟩ := hrel
    by_cases hlt : k < t.size
    · have hc := HC.out k hlt
      go_wp2
      go_round
      case rel => exact ⟨k + 1, hlt, by go_num, by rw [le_round t k hlt (by omega)]⟩
      case measure => simp [intOf]; omega
    · go_wp2
      go_ret
      refine ⟨?_, by rw [hm2.block b htk (fun x => x), HN.out.2]; exact H1.out, m1.trans (hm2.mono fun _ _ x => x.elim)⟩
      refine ret_int ?_
      have hl := HL.out
      rw [show k = t.size from by omega, take_all, HN.out.1]
      all_goals (generalize leNat t.data.toList = q at *; first | exact hl.symm | (rw [IntKind.wrap_u64] at hl; exact hl.symm))
end Go.Proofs.YtklpopmjpgdjnaaGreatDoor
namespace Go.Proofs.YtklpopmjpgdjnaaGreatDoor
open Go.RowKit

set_option maxHeartbeats 400000 in
theorem U8_any (b : Nat) (r : Rd) (w : World) (h : w.heap[b]? = some (rdO r)) (hs : r.s.size ≤ maxLen) (hat : r.at_ ≤ r.s.size) :
    Calls Tryz.prog 24 #[.pointer (some ⟨b, 0, none⟩)] w fun e w' => e = .returned (.int .u8 (r.num 1).1) ∧ w'.heap[b]? = some (rdO (r.num 1).2) ∧ Mod (· = b) w w' := by
  go_enter Tryz.func24, Tryz.ntmps24
  go_wp2_with fail
  refine (get_uint8 b r _ h hs hat).mono ?_
  rintro e w1 ⟨rfl, h1, m1⟩
  have H1 := Lib.hid h1; clear h1
  go_wp2
  go_ret
  exact ⟨rfl, H1.out, m1⟩
set_option maxHeartbeats 400000 in
theorem U16_any (b : Nat) (r : Rd) (w : World) (h : w.heap[b]? = some (rdO r)) (hs : r.s.size ≤ maxLen) (hat : r.at_ ≤ r.s.size) :
    Calls Tryz.prog 25 #[.pointer (some ⟨b, 0, none⟩)] w fun e w' => e = .returned (.int .u16 (r.num 2).1) ∧ w'.heap[b]? = some (rdO (r.num 2).2) ∧ Mod (· = b) w w' := by
  go_enter Tryz.func25, Tryz.ntmps25
  go_wp2_with fail
  refine (get_uint16 b r _ h hs hat).mono ?_
  rintro e w1 ⟨rfl, h1, m1⟩
  have H1 := Lib.hid h1; clear h1
  go_wp2
  go_ret
  exact ⟨rfl, H1.out, m1⟩
set_option maxHeartbeats 400000 in
theorem U32_any (b : Nat) (r : Rd) (w : World) (h : w.heap[b]? = some (rdO r)) (hs : r.s.size ≤ maxLen) (hat : r.at_ ≤ r.s.size) :
    Calls Tryz.prog 23 #[.pointer (some ⟨b, 0, none⟩)] w fun e w' => e = .returned (.int .u32 (r.num 4).1) ∧ w'.heap[b]? = some (rdO (r.num 4).2) ∧ Mod (· = b) w w' := by
  go_enter Tryz.func23, Tryz.ntmps23
  go_wp2_with fail
  refine (get_uint32 b r _ h hs hat).mono ?_
  rintro e w1 ⟨rfl, h1, m1⟩
  have H1 := Lib.hid h1; clear h1
  go_wp2
  go_ret
  exact ⟨rfl, H1.out, m1⟩
set_option maxHeartbeats 400000 in
theorem U64_any (b : Nat) (r : Rd) (w : World) (h : w.heap[b]? = some (rdO r)) (hs : r.s.size ≤ maxLen) (hat : r.at_ ≤ r.s.size) :
    Calls Tryz.prog 121 #[.pointer (some ⟨b, 0, none⟩)] w fun e w' => e = .returned (.int .u64 (r.num 8).1) ∧ w'.heap[b]? = some (rdO (r.num 8).2) ∧ Mod (· = b) w w' := by
  go_enter Tryz.func121, Tryz.ntmps121
  go_wp2_with fail
  refine (get_uint64 b r _ h hs hat).mono ?_
  rintro e w1 ⟨rfl, h1, m1⟩
  have H1 := Lib.hid h1; clear h1
  go_wp2
  go_ret
  exact ⟨rfl, H1.out, m1⟩

set_option maxHeartbeats 400000 in
theorem rest_any (b : Nat) (r : Rd) (w : World) (h : w.heap[b]? = some (rdO r)) (hs : r.s.size ≤ maxLen) (hat : r.at_ ≤ r.s.size) :
    Calls Tryz.prog 29 #[.pointer (some ⟨b, 0, none⟩)] w fun e w' => e = .returned (.string (r.s.extract r.at_ r.s.size)) ∧ ∃ n, w' = w.drewN n := by
  unfold maxLen at hs
  obtain ⟨s, at_, f⟩ := r
  simp only at hs hat
  have c0 : w.cell? ⟨b, 0, none⟩ = some (.string s) := (cell_of h 0).trans rfl
  have c1 : w.cell? ⟨b, 1, none⟩ = some (.int .i64 at_) := (cell_of h 1).trans rfl
  have c2 : w.cell? ⟨b, 2, none⟩ = some (.int .i64 f) := (cell_of h 2).trans rfl
  have c3 : w.cell? ⟨b, 3, none⟩ = some (.bool true) := (cell_of h 3).trans rfl
  have f1 : w.frozen? ⟨b, 1, none⟩ = false := free_of h 1
  have f2 : w.frozen? ⟨b, 2, none⟩ = false := free_of h 2
  have H := Lib.hid h; clear h
  go_enter Tryz.func29, Tryz.ntmps29
  go_wp2
  go_quiet (fail)
  go_wp2
  go_ret
  exact ⟨rfl, _, rfl⟩

set_option maxHeartbeats 400000 in
theorem at_any (b : Nat) (r : Rd) (w : World) (h : w.heap[b]? = some (rdO r)) :
    Calls Tryz.prog 148 #[.pointer (some ⟨b, 0, none⟩)] w fun e w' => e = .returned (.int .i64 r.at_) ∧ w = w' := by
  obtain ⟨s, at_, f⟩ := r
  have c0 : w.cell? ⟨b, 0, none⟩ = some (.string s) := (cell_of h 0).trans rfl
  have c1 : w.cell? ⟨b, 1, none⟩ = some (.int .i64 at_) := (cell_of h 1).trans rfl
  have c2 : w.cell? ⟨b, 2, none⟩ = some (.int .i64 f) := (cell_of h 2).trans rfl
  have c3 : w.cell? ⟨b, 3, none⟩ = some (.bool true) := (cell_of h 3).trans rfl
  have f1 : w.frozen? ⟨b, 1, none⟩ = false := free_of h 1
  have f2 : w.frozen? ⟨b, 2, none⟩ = false := free_of h 2
  have H := Lib.hid h; clear h
  go_enter Tryz.func148, Tryz.ntmps148
  go_wp2
  go_ret
  exact ⟨rfl, rfl⟩

set_option maxHeartbeats 400000 in
theorem fault_any (b : Nat) (r : Rd) (w : World) (h : w.heap[b]? = some (rdO r)) :
    Calls Tryz.prog 27 #[.pointer (some ⟨b, 0, none⟩)] w fun e w' => e = .returned (.int .i64 r.f) ∧ w = w' := by
  obtain ⟨s, at_, f⟩ := r
  have c0 : w.cell? ⟨b, 0, none⟩ = some (.string s) := (cell_of h 0).trans rfl
  have c1 : w.cell? ⟨b, 1, none⟩ = some (.int .i64 at_) := (cell_of h 1).trans rfl
  have c2 : w.cell? ⟨b, 2, none⟩ = some (.int .i64 f) := (cell_of h 2).trans rfl
  have c3 : w.cell? ⟨b, 3, none⟩ = some (.bool true) := (cell_of h 3).trans rfl
  have f1 : w.frozen? ⟨b, 1, none⟩ = false := free_of h 1
  have f2 : w.frozen? ⟨b, 2, none⟩ = false := free_of h 2
  have H := Lib.hid h; clear h
  go_enter Tryz.func27, Tryz.ntmps27
  go_wp2
  go_ret
  exact ⟨rfl, rfl⟩

set_option maxHeartbeats 400000 in
theorem end_any (b : Nat) (r : Rd) (w : World) (h : w.heap[b]? = some (rdO r)) (hs : r.s.size ≤ maxLen) (hat : r.at_ ≤ r.s.size) :
    Calls Tryz.prog 30 #[.pointer (some ⟨b, 0, none⟩)] w fun e w' => e = .returned (.int .i64 r.end_) ∧ ∃ n, w' = w.drewN n := by
  have hE : Hid (r.end_ = if r.f ≠ 0 then r.f else if r.at_ < r.s.size then 51 else 0) := rfl
  by_cases h1 : r.f = 0
  · have g1 : (r.f != 0) = false := by simp [h1]
    have H1 := Lib.hid h1; clear h1
    by_cases h2 : r.at_ < r.s.size
    all_goals
      have g2 := extract_isEmpty r.s r.at_ hat
      first | rw [decide_eq_false (by omega)] at g2 | rw [decide_eq_true (by omega)] at g2
      go_enter Tryz.func30, Tryz.ntmps30
      go_wp2_with fail
      refine (fault_any b r _ h).mono ?_
      rintro e w1 ⟨rfl, rfl⟩
      go_wp2_with fail
      refine (rest_any b r _ h hs hat).mono ?_
      rintro e w1 ⟨rfl, n, rfl⟩
      go_wp2
      go_ret
      exact ⟨ret_int (by rw [hE.out, if_neg (fun x => x H1.out)]; first | rw [if_pos h2] | rw [if_neg h2]), n, rfl⟩
  · have g1 : (r.f != 0) = true := by simpa using h1
    go_enter Tryz.func30, Tryz.ntmps30
    go_wp2_with fail
    refine (fault_any b r _ h).mono ?_
    rintro e w1 ⟨rfl, rfl⟩
    go_wp2
    go_ret
    exact ⟨ret_int (by rw [hE.out, if_pos h1]), 0, rfl⟩

set_option maxHeartbeats 400000 in
theorem keep_deferred (b a0 : Nat) (r : Rd) (u : FrameMode) (w : World) (h : w.heap[b]? = some (rdO r)) :
    CallsD Tryz.prog 137 #[.pointer (some ⟨b, 0, none⟩), .int .i64 a0] u w fun e u' w' => u' = u ∧ (e = .returned (.tuple #[]) ∧ w'.heap[b]? = some (rdO (r.keep a0)) ∧ Mod (· = b) w w') := by
  obtain ⟨s, at_, f⟩ := r
  have hk : Hid (Rd.keep ⟨s, at_, f⟩ a0 = if f ≠ 0 then ⟨s, a0, f⟩ else ⟨s, at_, f⟩) := rfl
  by_cases h1 : f = 0
  · have g1 : (f != 0) = false := by simp [h1]
    have H1 := Lib.hid h1; clear h1
    have c0 : w.cell? ⟨b, 0, none⟩ = some (.string s) := (cell_of h 0).trans rfl
    have c1 : w.cell? ⟨b, 1, none⟩ = some (.int .i64 at_) := (cell_of h 1).trans rfl
    have c2 : w.cell? ⟨b, 2, none⟩ = some (.int .i64 f) := (cell_of h 2).trans rfl
    have c3 : w.cell? ⟨b, 3, none⟩ = some (.bool true) := (cell_of h 3).trans rfl
    have f1 : w.frozen? ⟨b, 1, none⟩ = false := free_of h 1
    have f2 : w.frozen? ⟨b, 2, none⟩ = false := free_of h 2
    have H := Lib.hid h; clear h
    go_enter_d Tryz.func137, Tryz.ntmps137
    go_wp2
    go_end0
    exact ⟨rfl, by rw [hk.out, if_neg (fun x => x H1.out)]; exact H.out, Mod.refl _ _⟩
  · have g1 : (f != 0) = true := by simpa using h1
    have c0 : w.cell? ⟨b, 0, none⟩ = some (.string s) := (cell_of h 0).trans rfl
    have c1 : w.cell? ⟨b, 1, none⟩ = some (.int .i64 at_) := (cell_of h 1).trans rfl
    have c2 : w.cell? ⟨b, 2, none⟩ = some (.int .i64 f) := (cell_of h 2).trans rfl
    have c3 : w.cell? ⟨b, 3, none⟩ = some (.bool true) := (cell_of h 3).trans rfl
    have f1 : w.frozen? ⟨b, 1, none⟩ = false := free_of h 1
    have f2 : w.frozen? ⟨b, 2, none⟩ = false := free_of h 2
    have H := Lib.hid h; clear h
    go_enter_d Tryz.func137, Tryz.ntmps137
    go_wp2
    go_end0
    exact ⟨rfl, by rw [hk.out, if_pos h1]; exact heap_set (H.out : w.heap[b]? = _) 1 _, Mod.set1 _ _ _ _⟩

set_option maxHeartbeats 400000 in
theorem text_any (b : Nat) (r : Rd) (w : World) (h : w.heap[b]? = some (rdO r)) (hs : r.s.size ≤ maxLen) (hat : r.at_ ≤ r.s.size) :
    Calls Tryz.prog 116 #[.pointer (some ⟨b, 0, none⟩)] w fun e w' => e = .returned (.string r.text.1) ∧ w'.heap[b]? = some (rdO r.text.2) ∧ Mod (· = b) w w' := by
  obtain ⟨s, at_, f⟩ := r
  simp only at hs hat
  have h0 := Lib.hid h
  have hnl : (Rd.num ⟨s, at_, f⟩ 2).1 < 65536 := Rd.num_lt _ 2
  have c0 : w.cell? ⟨b, 0, none⟩ = some (.string s) := (cell_of h 0).trans rfl
  have c1 : w.cell? ⟨b, 1, none⟩ = some (.int .i64 at_) := (cell_of h 1).trans rfl
  have c2 : w.cell? ⟨b, 2, none⟩ = some (.int .i64 f) := (cell_of h 2).trans rfl
  have c3 : w.cell? ⟨b, 3, none⟩ = some (.bool true) := (cell_of h 3).trans rfl
  have f1 : w.frozen? ⟨b, 1, none⟩ = false := free_of h 1
  have f2 : w.frozen? ⟨b, 2, none⟩ = false := free_of h 2
  have H := Lib.hid h; clear h
  go_enter_defers Tryz.func116, Tryz.ntmps116
  go_wp2_with fail
  refine (U16_any b _ _ h0.out hs hat).mono ?_
  rintro e w1 ⟨rfl, h1, m1⟩
  have H1 := Lib.hid h1; clear h1
  go_wp2_with fail
  refine (bytes_any b _ _ _ H1.out (by rw [Rd.num_s]; exact hs) (Rd.num_at _ _ hat)).mono ?_
  rintro e w2 ⟨rfl, h2, m2⟩
  have H2 := Lib.hid h2; clear h2
  go_wp2
  refine leaves_cons (f := 137) (args := #[.pointer (some ⟨b, 0, none⟩), .int .i64 at_]) (by simp) (by simp [go_sem]) ?_
  refine (keep_deferred b at_ _ .returning _ H2.out).mono ?_
  rintro e u' w3 ⟨rfl, rfl, h3, m3⟩
  exact ⟨_, results_tmp rfl _ _ _, rfl, h3, (m1.trans m2).trans m3⟩
end Go.Proofs.YtklpopmjpgdjnaaGreatDoor
