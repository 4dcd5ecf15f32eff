/- Plain facts on worlds: a change at one block alone, cells of a known block. -/
import Derived.Test.YtcadkaedahoefaaProg
import Derived.WalkKit
import Derived.WalkSpells
import Derived.WalkLawsBesides
import Derived.Lib.Hide
import Derived.Deep.QuietTactic
import Derived.BigQuiet
import Derived.Deep.RegionWith
import Derived.Lib.ConvBytes
import Derived.Laws.IdiomStrings
import Derived.Laws.OwnMore
import Derived.OwnWalk
import Derived.Lib.BufferWrite
namespace Go.Proofs.Ytcadkaedahoefaa
open Go.RowKit

/-- of what was there, all blocks but those in S are as they were -/
structure Mod (S : Nat → Prop) (w w' : World) : Prop where
  os : w'.os = w.os
  tape : w'.tape = w.tape
  output : w'.output = w.output
  size : w.heap.size ≤ w'.heap.size
  block : ∀ k, k < w.heap.size → ¬ S k → w'.heap[k]? = w.heap[k]?

theorem Mod.refl (S : Nat → Prop) (w : World) : Mod S w w := ⟨rfl, rfl, rfl, Nat.le_refl _, fun _ _ _ => rfl⟩
theorem Mod.trans {S : Nat → Prop} {a b c : World} (h : Mod S a b) (k : Mod S b c) : Mod S a c :=
  ⟨k.os.trans h.os, k.tape.trans h.tape, k.output.trans h.output, Nat.le_trans h.size k.size, fun i hi hs => (k.block i (Nat.lt_of_lt_of_le hi h.size) hs).trans (h.block i hi hs)⟩
theorem Mod.mono {S T : Nat → Prop} {a b : World} (h : Mod S a b) (hs : ∀ k, k < a.heap.size → S k → T k) : Mod T a b :=
  ⟨h.os, h.tape, h.output, h.size, fun i hi ht => h.block i hi (fun x => ht (hs i hi x))⟩
/-- what a later step turns besides is new since a -/
theorem Mod.trans' {S T : Nat → Prop} {a b c : World} (h : Mod S a b) (k : Mod T b c) (ht : ∀ k, k < a.heap.size → T k → S k) : Mod S a c :=
  ⟨k.os.trans h.os, k.tape.trans h.tape, k.output.trans h.output, Nat.le_trans h.size k.size, fun i hi hs => (k.block i (Nat.lt_of_lt_of_le hi h.size) (fun x => hs (ht i hi x))).trans (h.block i hi hs)⟩
theorem Mod.drew {S : Nat → Prop} {a w : World} (h : Mod S a w) : Mod S a w.drew := ⟨h.os, h.tape, h.output, h.size, h.block⟩
theorem Mod.drewN {S : Nat → Prop} {a w : World} (h : Mod S a w) (n : Nat) : Mod S a (w.drewN n) := ⟨h.os, h.tape, h.output, h.size, h.block⟩
theorem Mod.ofDrew {S : Nat → Prop} {a w : World} (h : Mod S a.drew w) : Mod S a w := ⟨h.os, h.tape, h.output, h.size, h.block⟩
theorem Mod.ofAlloc {S : Nat → Prop} {a w : World} {o : Obj} (h : Mod S (a.alloc o) w) : Mod S a w :=
  ⟨h.os, h.tape, h.output, by have := h.size; simp at this; omega, fun k hk hs => by rw [h.block k (by simp; omega) hs, Below.heap_alloc _ _ _ hk]⟩
theorem Mod.alloc {S : Nat → Prop} {a w : World} (h : Mod S a w) (o : Obj) : Mod S a (w.alloc o) :=
  ⟨h.os, h.tape, h.output, by have := h.size; simp; omega, fun k hk hs => by rw [Below.heap_alloc _ _ _ (Nat.lt_of_lt_of_le hk h.size)]; exact h.block k hk hs⟩
theorem Mod.setCell {S : Nat → Prop} {a w : World} (h : Mod S a w) {p : Addr} (hp : S p.block ∨ a.heap.size ≤ p.block) (u : Value) : Mod S a (w.setCell p u) :=
  ⟨h.os, h.tape, h.output, by have := h.size; simpa [World.setCell] using this, fun k hk hs => by
    rw [Below.heap_setCell _ _ _ _ (by intro e; subst e; rcases hp with hp | hp; exact hs hp; omega)]; exact h.block k hk hs⟩
theorem Mod.set1 (w : World) (b i : Nat) (u : Value) : Mod (· = b) w (w.setCell ⟨b, i, none⟩ u) := (Mod.refl (· = b) w).setCell (p := ⟨b, i, none⟩) (Or.inl rfl) u
theorem Mod.below {w w' : World} (h : Mod (fun _ => False) w w') : Below w.heap.size w w' :=
  ⟨h.os, h.tape, h.output, h.size, fun k hk => h.block k hk (fun x => x)⟩
theorem Mod.of_below {S : Nat → Prop} {w w' : World} (h : Below w.heap.size w w') : Mod S w w' :=
  ⟨h.os, h.tape, h.output, h.size, fun k hk _ => h.block k hk⟩

/-- the cells of a block that is known whole -/
theorem cell_of {w : World} {b : Nat} {cs : Array Value} {e : TypeId} (h : w.heap[b]? = some (.cells cs e (0, 0))) (i : Nat) : w.cell? ⟨b, i, none⟩ = cs[i]? := by
  simp [World.cell?, h]
theorem free_of {w : World} {b : Nat} {cs : Array Value} {e : TypeId} (h : w.heap[b]? = some (.cells cs e (0, 0))) (i : Nat) : w.frozen? ⟨b, i, none⟩ = false := by
  simp [World.frozen?, h]
theorem heap_set {w : World} {b : Nat} {cs : Array Value} {e : TypeId} (h : w.heap[b]? = some (.cells cs e (0, 0))) (i : Nat) (v : Value) :
    (w.setCell ⟨b, i, none⟩ v).heap[b]? = some (.cells (cs.setIfInBounds i v) e (0, 0)) := by
  simp [World.setCell, Array.getElem?_modify, h]
theorem lt_of {w : World} {b : Nat} {o : Obj} (h : w.heap[b]? = some o) : b < w.heap.size := by
  rcases Nat.lt_or_ge b w.heap.size with g | g
  · exact g
  · simp [Array.getElem?_eq_none g] at h

/-- a slice of one-cell elements that reads as xs; its block meets P -/
def SlAt (w : World) (P : Nat → Prop) (v : Value) (xs : List Value) : Prop :=
  (xs = [] ∧ ∃ a c, v = .slice a 0 c) ∨ ∃ g off cap, v = .slice (some ⟨g, off, none⟩) xs.length cap ∧ P g ∧ g < w.heap.size ∧ xs.length ≤ cap ∧ ∀ j u, xs[j]? = some u → w.cell? ⟨g, off + j, none⟩ = some u
theorem SlAt.mod {w w' : World} {P S : Nat → Prop} {v : Value} {xs : List Value} (h : SlAt w P v xs) (hm : Mod S w w') (hp : ∀ g, P g → g < w.heap.size → ¬ S g) : SlAt w' P v xs := by
  rcases h with h | ⟨g, off, cap, h1, h2, h3, h4, h5⟩
  · exact .inl h
  · exact .inr ⟨g, off, cap, h1, h2, Nat.lt_of_lt_of_le h3 hm.size, h4, fun j u hj => (World.cell?_of_block (hm.block g h3 (hp g h2 h3))).trans (h5 j u hj)⟩
theorem SlAt.imp {w : World} {P Q : Nat → Prop} {v : Value} {xs : List Value} (h : SlAt w P v xs) (hp : ∀ g, P g → Q g) : SlAt w Q v xs := by
  rcases h with h | ⟨g, off, cap, h1, h2, h3⟩
  · exact .inl h
  · exact .inr ⟨g, off, cap, h1, hp g h2, h3⟩
theorem SlAt.of_owns {w : World} {base n : Nat} {e : TypeId} {v : Value} {xs : List Value} (h : w.ownsRow base e 1 v n xs) : SlAt w (base ≤ ·) v xs := by
  obtain ⟨h1, h2⟩ := h
  obtain rfl : xs.length = n := by omega
  rcases h2 with ⟨h2, h3⟩ | ⟨g, cap, cur, hv, hg, hh, hn, hm, hs, ht⟩
  · exact .inl ⟨List.eq_nil_of_length_eq_zero h3, _, _, h2⟩
  · refine .inr ⟨g, 0, cap, hv, hg, lt_of hh, hn, fun j u hj => ?_⟩
    rw [Nat.zero_add, cell_of hh, ← Array.getElem?_toList]
    rw [← ht, Nat.mul_one, List.getElem?_take] at hj
    split at hj
    · exact hj
    · cases hj
/-- .. said of one place after the other -/
theorem SlAt.form {w : World} {P : Nat → Prop} {v : Value} {xs : List Value} (h : SlAt w P v xs) : ∃ a cap, v = .slice a xs.length cap ∧ xs.length ≤ cap ∧
    ∀ j u, xs[j]? = some u → ∃ g off, a = some ⟨g, off, none⟩ ∧ P g ∧ g < w.heap.size ∧ w.cell? ⟨g, off + j, none⟩ = some u := by
  rcases h with ⟨rfl, a, c, rfl⟩ | ⟨g, off, cap, h1, h2, h3, h4, h5⟩
  · exact ⟨a, c, rfl, Nat.zero_le _, fun j u hj => by simp at hj⟩
  · exact ⟨_, cap, h1, h4, fun j u hj => ⟨g, off, rfl, h2, h3, h5 j u hj⟩⟩
theorem strs_get {l : List ByteArray} {k : Nat} (h : k < l.length) : (l.map Value.string)[k]? = some (.string l[k]) := by
  rw [List.getElem?_map, List.getElem?_eq_getElem h]; rfl
theorem Mod.of_grown {w w' : World} {row : Option Nat} (h : w.grownBy w' row) : Mod (fun k => some k = row) w w' := ⟨h.os, h.tape, h.output, h.size, fun k hk hs => h.block k hk hs⟩
/-- a store, an append in what is new (since w) turns nothing that was there at w -/
theorem Mod.thenGrown {S : Nat → Prop} {w wr w' : World} {row : Option Nat} (h : Mod S w wr) (hg : wr.grownBy w' row) (hr : ∀ k, row = some k → w.heap.size ≤ k) : Mod S w w' :=
  h.trans' (Mod.of_grown hg) fun k hk e => by have := hr k e.symm; omega

theorem owns_mod {w w' : World} {base size n : Nat} {e : TypeId} {v : Value} {xs : List Value} {S : Nat → Prop} (h : w.ownsRow base e size v n xs) (hm : Mod S w w') (hS : ∀ k, base ≤ k → ¬ S k) : w'.ownsRow base e size v n xs := by
  refine ⟨h.1, ?_⟩
  rcases h.2 with hn | ⟨g, cap, cur, rfl, hb, hgg, rest⟩
  · exact .inl hn
  · exact .inr ⟨g, cap, cur, rfl, hb, (hm.block g (lt_of hgg) (hS g hb)).trans hgg, rest⟩
theorem new_one (w : World) (x : Value) (e : TypeId) : ∀ j u, ([x] : List Value)[j]? = some u → (w.alloc (.cells #[x] e)).cell? ((⟨w.heap.size, 0, none⟩ : Addr).add j) = some u := by
  intro j u hj
  cases j with
  | zero =>
    simp at hj
    subst hj
    rw [show ((⟨w.heap.size, 0, none⟩ : Addr).add 0) = ⟨w.heap.size, 0, none⟩ from rfl, World.cell?_alloc_new]
    rfl
  | succ j => simp at hj

theorem res1 {fn : Func} {t : Tmp} {tmps : Array Value} {P : Program} {w : World} {v : Value} (h : fn.results = #[.tmp t]) (hv : tmps.getD t undef = v) : (results fn tmps).run P w = .ok v w := by
  rw [← hv]; exact results_tmp h tmps P w
/-- a text out of a list of bytes -/
def bs (l : List UInt8) : ByteArray := ⟨l.toArray⟩
theorem bs_data (l : List UInt8) : (bs l).data.toList = l := rfl
theorem bs_size (l : List UInt8) : (bs l).size = l.length := rfl
theorem bs_of (s : ByteArray) : bs s.data.toList = s := rfl
theorem bs_cat (l m : List UInt8) : bs (l ++ m) = bs l ++ bs m := (ByteArray.mk_append_mk l m).symm
/-- 'string(b)', b's cells being the bytes l -/
theorem conv_string {P : Program} (w : World) (src dst e : TypeId) (g off cap : Nat) (l : List UInt8) (n : Nat) (hn : n = l.length)
    (hs : P.underlying src = some (.slice e)) (he : P.underlying e = some (.int .u8)) (hd : P.underlying dst = some .string)
    (hc : ∀ j (hj : j < l.length), w.cell? ⟨g, off + j, none⟩ = some (.int .u8 (l[j].toNat : Int))) :
    (convert src dst (.slice (some ⟨g, off, none⟩) n cap)).run P w = .ok (.string (bs l)) w := by
  subst hn
  refine run_convert_bytes_back w src dst e ⟨g, off, none⟩ cap l hs he hd fun j hj => ?_
  have hplain : (⟨g, off, none⟩ : Addr).add j = ⟨g, off + j, none⟩ := by unfold Addr.add; split <;> simp_all
  rw [hplain]; exact hc j hj
/-- 'make([]T, n)' of one-cell elements -/
theorem make_row {P : Program} (t e : TypeId) (z : Value) (bytes : Nat) (n : Nat) (ht : P.underlying t = some (.slice e)) (hi : (P.info? e).map (fun i => (i.zero, i.size, i.bytes)) = some (some z, 1, bytes)) (hz : z.cells = #[z])
    (hb : bytes * n ≤ 281474976710656) (hm : n ≤ maxLen) : ∀ w : World, (Instr.makeSlice t (.int .i64 n) (.int .i64 n)).run P w = .ok (.slice (some ⟨w.heap.size, 0, none⟩) n n) (w.alloc (.cells (List.replicate n z).toArray e)) := by
  intro w
  obtain ⟨i0, hi0, h0, h1, h2⟩ := info_parts hi
  unfold maxLen at hm
  have h := run_make (P := P) w t e i0 z ht hi0 h0 .i64 .i64 (n : Int) (n : Int) (by omega) (Int.le_refl _) (by rw [h2, ← Int.natCast_mul]; omega) (by omega)
  rw [h1, hz, Nat.mul_one, Int.toNat_natCast] at h
  rw [h, ← toList_madeCells_one]
theorem make_rowI {P : Program} (t e : TypeId) (z : Value) (bytes : Nat) (n : Nat) (N : Int) (hN : N = n) (ht : P.underlying t = some (.slice e)) (hi : (P.info? e).map (fun i => (i.zero, i.size, i.bytes)) = some (some z, 1, bytes)) (hz : z.cells = #[z])
    (hb : bytes * n ≤ 281474976710656) (hm : n ≤ maxLen) : ∀ w : World, (Instr.makeSlice t (.int .i64 N) (.int .i64 N)).run P w = .ok (.slice (some ⟨w.heap.size, 0, none⟩) n n) (w.alloc (.cells (List.replicate n z).toArray e)) := by
  subst hN; exact make_row t e z bytes n ht hi hz hb hm
theorem new_at (w : World) (o : Obj) : (w.alloc o).heap[w.heap.size]? = some o := heap_alloc_new w o
theorem new_at' (w : World) (o : Obj) (k : Nat) (hk : k = w.heap.size) : (w.alloc o).heap[k]? = some o := by subst hk; exact new_at w o
theorem alloc_keep {w : World} {o : Obj} {k : Nat} {x : Obj} (h : w.heap[k]? = some x) : (w.alloc o).heap[k]? = some x := by
  rw [Below.heap_alloc _ _ _ (lt_of h)]; exact h
/-- bytes as cells -/
def bc (l : List UInt8) : List Value := l.map fun b => Value.int .u8 (b.toNat : Int)
theorem bc_length (l : List UInt8) : (bc l).length = l.length := List.length_map _
theorem bc_one (l : List UInt8) : ∀ v ∈ bc l, v.oneCell' = true := by
  intro v hv
  simp only [bc, List.mem_map] at hv
  obtain ⟨b, _, rfl⟩ := hv
  rfl
theorem bc_zeros (n : Nat) : List.replicate n (Value.int .u8 0) = bc (List.replicate n 0) := by simp [bc]
theorem bc_get (l : List UInt8) (j : Nat) : (bc l)[j]? = l[j]?.map fun b => Value.int .u8 (b.toNat : Int) := by simp [bc]
/-- a row of bytes -/
def BRow (w : World) (g : Nat) (l : List UInt8) (e : TypeId) : Prop := w.heap[g]? = some (.cells (bc l).toArray e (0, 0))
theorem BRow.cell {w : World} {g : Nat} {l : List UInt8} {e : TypeId} (h : BRow w g l e) (j : Nat) (hj : j < l.length) : w.cell? ⟨g, j, none⟩ = some (.int .u8 (l[j].toNat : Int)) := by
  rw [cell_of h, ← Array.getElem?_toList, List.toList_toArray, bc_get, List.getElem?_eq_getElem hj]; rfl
theorem BRow.mod {w w' : World} {g : Nat} {l : List UInt8} {e : TypeId} {S : Nat → Prop} (h : BRow w g l e) (hm : Mod S w w') (hs : ¬ S g) : BRow w' g l e := (hm.block g (lt_of h) hs).trans h
/-- 'copy(dst, s)', s a text that fits, dst in a row of bytes -/
theorem wpl_copy_string {P : Program} {w : World} {ops : Array Oper} {rest : List Oper} {o : Oper} {a : Act} {Q : Exit → Act → World → Prop} (hgd : o.guard = none) (d s : Operand) (dT sT : TypeId)
    (ho : o.op = .call { callee := .builtin .copy, args := #[d, s], argTypes := #[dT, sT] }) (elem : TypeId) (hu : P.underlying dT = some (.slice elem)) (hsz : (P.info? elem).map (·.size) = some 1)
    (g off dLen dCap : Nat) (hd : a.eval d = .slice (some ⟨g, off, none⟩) dLen dCap) (t : ByteArray) (hs : a.eval s = .string t) (l : List UInt8) (e : TypeId) (hg : BRow w g l e) (hle : t.size ≤ dLen) (hfit : off + t.size ≤ l.length)
    (h : ∀ w', BRow w' g (l.take off ++ t.data.toList ++ l.drop (off + t.size)) e → Mod (· = g) w w' → wpList P ops Q rest (a.put o.dst (goInt t.size)) w') : wpList P ops Q (o :: rest) a w := by
  refine wpList_plain hgd fun K hK => ?_
  have hrun := Lib.run_copy_row_string (P := P) w dT sT o.type elem g off dLen dCap t (bc l).toArray e hu hsz hg hle (by simpa [bc_length] using hfit)
  unfold Oper.wp
  simp [execOp, ho, resolve, invoke, builtin, hd, hs, hrun, Result.andThen]
  refine hK _ _ (h _ ?_ ⟨rfl, rfl, rfl, by simp [World.setRow], fun k _ hk => setRow_other w g k _ hk⟩)
  unfold BRow
  rw [setRow_heap w g _ _ e (0, 0) hg]
  simp only [bc, Lib.byteCells, List.map_append, List.map_take, List.map_drop, List.append_assoc]
/-- 'copy(dst, "")' -/
theorem wpl_copy_empty {P : Program} {w : World} {ops : Array Oper} {rest : List Oper} {o : Oper} {a : Act} {Q : Exit → Act → World → Prop} (hgd : o.guard = none) (d s : Operand) (dT sT : TypeId)
    (ho : o.op = .call { callee := .builtin .copy, args := #[d, s], argTypes := #[dT, sT] }) (elem : TypeId) (hu : P.underlying dT = some (.slice elem)) (hsz : (P.info? elem).map (·.size) = some 1)
    (da : Option Addr) (dLen dCap : Nat) (hd : a.eval d = .slice da dLen dCap) (t : ByteArray) (hs : a.eval s = .string t) (h0 : t.size = 0)
    (h : wpList P ops Q rest (a.put o.dst (goInt 0)) w) : wpList P ops Q (o :: rest) a w := by
  refine wpList_plain hgd fun K hK => ?_
  have hrun := Lib.run_copy_empty_string (P := P) w dT sT o.type elem da dLen dCap t hu (by cases hq : P.info? elem <;> simp [hq] at hsz ⊢) h0
  unfold Oper.wp
  simp [execOp, ho, resolve, invoke, builtin, hd, hs, hrun, Result.andThen]
  exact hK _ _ h
/-- 'string(b)', b a row of bytes from its head -/
theorem conv_row {P : Program} {w : World} (src dst e : TypeId) (g n cap : Nat) (l : List UInt8) (h : BRow w g l e) (hn : n = l.length)
    (hs : P.underlying src = some (.slice e)) (he : P.underlying e = some (.int .u8)) (hd : P.underlying dst = some .string) :
    (convert src dst (.slice (some ⟨g, 0, none⟩) n cap)).run P w = .ok (.string (bs l)) w :=
  conv_string w src dst e g 0 cap l n hn hs he hd fun j hj => by rw [Nat.zero_add]; exact h.cell j hj
/-- 'string(b)', b just made -/
theorem conv_new {P : Program} (src dst e : TypeId) (n : Nat) (l : List UInt8) (hn : n = l.length)
    (hs : P.underlying src = some (.slice e)) (he : P.underlying e = some (.int .u8)) (hd : P.underlying dst = some .string) :
    ∀ w : World, (convert src dst (.slice (some ⟨w.heap.size, 0, none⟩) n n)).run P (w.alloc (.cells (bc l).toArray e)) = .ok (.string (bs l)) (w.alloc (.cells (bc l).toArray e)) :=
  fun w => conv_row src dst e w.heap.size n n l (new_at _ _) hn hs he hd
theorem conv_new_drew {P : Program} (src dst e : TypeId) (n : Nat) (l : List UInt8) (hn : n = l.length)
    (hs : P.underlying src = some (.slice e)) (he : P.underlying e = some (.int .u8)) (hd : P.underlying dst = some .string) :
    ∀ w : World, (convert src dst (.slice (some ⟨w.heap.size, 0, none⟩) n n)).run P (w.alloc (.cells (bc l).toArray e)).drew = .ok (.string (bs l)) (w.alloc (.cells (bc l).toArray e)).drew :=
  fun w => conv_row src dst e w.heap.size n n l (show BRow ((w.alloc (.cells (bc l).toArray e)).drew) w.heap.size l e from new_at _ _) hn hs he hd
/-- the capacity cut -/
theorem SlAt.recap {w : World} {P : Nat → Prop} {a : Addr} {n cap c : Nat} {xs : List Value} (h : SlAt w P (.slice (some a) n cap) xs) (hc : xs.length ≤ c) : SlAt w P (.slice (some a) n c) xs := by
  rcases h with ⟨hx, a', c', h⟩ | ⟨g, off, cap', h1, h2, h3, h4, h5⟩
  · injection h with e1 e2 e3
    exact .inl ⟨hx, some a, c, by rw [e2]⟩
  · injection h1 with e1 e2 e3
    exact .inr ⟨g, off, c, by rw [e1, e2], h2, h3, hc, h5⟩
/-- an append to what is the call's own turns nothing below -/
theorem grow_keep {w w' : World} {base size n b : Nat} {e : TypeId} {v : Value} {xs : List Value} {o : Obj} (h : w.ownsRow base e size v n xs) (hg : (w.alloc o).grownBy w' v.ownBlock) (hb : b < base) (hw : b < w.heap.size) : w'.heap[b]? = w.heap[b]? := by
  rw [hg.block b (by rw [World.size_alloc]; omega) (fun x => by have := (h.lt b x.symm).1; omega), Below.heap_alloc _ _ _ hw]
theorem grow_mod {w0 w w' : World} {S : Nat → Prop} {base size n : Nat} {e : TypeId} {v : Value} {xs : List Value} {o : Obj} (hm : Mod S w0 w) (h : w.ownsRow base e size v n xs) (hg : (w.alloc o).grownBy w' v.ownBlock) (hb : w0.heap.size ≤ base) : Mod S w0 w' :=
  (hm.alloc o).trans' (Mod.of_grown hg) fun k hk x => by have := (h.lt k x.symm).1; omega

/-- '[]byte(s)': a new row -/
theorem conv_bytes {P : Program} (w : World) (src dst e : TypeId) (s : ByteArray) {u : TypeDesc}
    (hs : P.underlying src = some u) (hd : P.underlying dst = some (.slice e)) (he : P.underlying e = some (.int .u8)) :
    ∃ w' c, (convert src dst (.string s)).run P w = .ok (.slice (some ⟨w.heap.size, 0, none⟩) s.size c) w' ∧
      (∀ j, j < s.size → w'.cell? ⟨w.heap.size, j, none⟩ = some (.int .u8 (s.data.toList.getD j 0).toNat)) ∧ Mod (fun _ => False) w w' ∧ w.heap.size < w'.heap.size :=
  ⟨_, _, Lib.run_convert_string_bytes w src dst e s hs hd he, fun j hj => Lib.bytesWorld_cell w e s j hj,
    ⟨rfl, rfl, rfl, by rw [Lib.bytesWorld_size]; omega, fun k hk _ => Lib.bytesWorld_at_old w e s k hk⟩, by rw [Lib.bytesWorld_size]; omega⟩

theorem ret_int {k : IntKind} {a b : Int} (h : a = b) : Ending.returned (.int k a) = .returned (.int k b) := by rw [h]
theorem ret_str {a b : ByteArray} (h : a = b) : Ending.returned (.string a) = .returned (.string b) := by rw [h]
theorem ret_bool {a b : Bool} (h : a = b) : Ending.returned (.bool a) = .returned (.bool b) := by rw [h]
end Go.Proofs.Ytcadkaedahoefaa
