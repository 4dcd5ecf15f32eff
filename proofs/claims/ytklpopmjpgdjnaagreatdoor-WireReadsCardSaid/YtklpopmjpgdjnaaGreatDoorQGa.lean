/- Plain facts on worlds: a change at one block alone, cells of a known block.
   What the frames of the statements share: behind a call that only makes memory a law's row holds.
   Package code, plain: what a reader does, and numbers as bytes.
   A stat, plain, and its bytes.
   A stat read, plain.
   A message, plain: its fields, what is written and what is read. -/
import Derived.Test.YtklpopmjpgdjnaaGreatDoorProg
import Derived.WalkKit
import Derived.WalkSpells
import Derived.WalkLawsBesides
import Derived.Lib.Hide
import Derived.Deep.QuietTactic
import Derived.BigQuiet
import Derived.Deep.RegionWith
import Derived.Lib.ConvBytes
import Derived.Laws.IdiomStrings
import Derived.Laws.OwnMore
import Derived.OwnWalk
import Derived.Lib.BufferWrite
import Derived.Test.YtklpopmjpgdjnaaGreatDoorRows
import Derived.ProofKit
import Derived.OpenShut
import Derived.Deep.Slices
import Derived.Deep.Fields
import Derived.Laws.BitsAllLaws
import Derived.Laws.Strings
set_option linter.unusedVariables false
set_option linter.unusedSimpArgs false
namespace Go.Proofs.YtklpopmjpgdjnaaGreatDoor
open Go.RowKit

/-- of what was there, all blocks but those in S are as they were -/
structure Mod (S : Nat → Prop) (w w' : World) : Prop where
  os : w'.os = w.os
  tape : w'.tape = w.tape
  output : w'.output = w.output
  size : w.heap.size ≤ w'.heap.size
  block : ∀ k, k < w.heap.size → ¬ S k → w'.heap[k]? = w.heap[k]?

theorem Mod.refl (S : Nat → Prop) (w : World) : Mod S w w := ⟨rfl, rfl, rfl, Nat.le_refl _, fun _ _ _ => rfl⟩
theorem Mod.trans {S : Nat → Prop} {a b c : World} (h : Mod S a b) (k : Mod S b c) : Mod S a c :=
  ⟨k.os.trans h.os, k.tape.trans h.tape, k.output.trans h.output, Nat.le_trans h.size k.size, fun i hi hs => (k.block i (Nat.lt_of_lt_of_le hi h.size) hs).trans (h.block i hi hs)⟩
theorem Mod.mono {S T : Nat → Prop} {a b : World} (h : Mod S a b) (hs : ∀ k, k < a.heap.size → S k → T k) : Mod T a b :=
  ⟨h.os, h.tape, h.output, h.size, fun i hi ht => h.block i hi (fun x => ht (hs i hi x))⟩
/-- what a later step turns besides is new since a -/
theorem Mod.trans' {S T : Nat → Prop} {a b c : World} (h : Mod S a b) (k : Mod T b c) (ht : ∀ k, k < a.heap.size → T k → S k) : Mod S a c :=
  ⟨k.os.trans h.os, k.tape.trans h.tape, k.output.trans h.output, Nat.le_trans h.size k.size, fun i hi hs => (k.block i (Nat.lt_of_lt_of_le hi h.size) (fun x => hs (ht i hi x))).trans (h.block i hi hs)⟩
theorem Mod.drew {S : Nat → Prop} {a w : World} (h : Mod S a w) : Mod S a w.drew := ⟨h.os, h.tape, h.output, h.size, h.block⟩
theorem Mod.drewN {S : Nat → Prop} {a w : World} (h : Mod S a w) (n : Nat) : Mod S a (w.drewN n) := ⟨h.os, h.tape, h.output, h.size, h.block⟩
theorem Mod.ofDrew {S : Nat → Prop} {a w : World} (h : Mod S a.drew w) : Mod S a w := ⟨h.os, h.tape, h.output, h.size, h.block⟩
theorem Mod.ofAlloc {S : Nat → Prop} {a w : World} {o : Obj} (h : Mod S (a.alloc o) w) : Mod S a w :=
  ⟨h.os, h.tape, h.output, by have := h.size; simp at this; omega, fun k hk hs => by rw [h.block k (by simp; omega) hs, Below.heap_alloc _ _ _ hk]⟩
theorem Mod.alloc {S : Nat → Prop} {a w : World} (h : Mod S a w) (o : Obj) : Mod S a (w.alloc o) :=
  ⟨h.os, h.tape, h.output, by have := h.size; simp; omega, fun k hk hs => by rw [Below.heap_alloc _ _ _ (Nat.lt_of_lt_of_le hk h.size)]; exact h.block k hk hs⟩
theorem Mod.setCell {S : Nat → Prop} {a w : World} (h : Mod S a w) {p : Addr} (hp : S p.block ∨ a.heap.size ≤ p.block) (u : Value) : Mod S a (w.setCell p u) :=
  ⟨h.os, h.tape, h.output, by have := h.size; simpa [World.setCell] using this, fun k hk hs => by
    rw [Below.heap_setCell _ _ _ _ (by intro e; subst e; rcases hp with hp | hp; exact hs hp; omega)]; exact h.block k hk hs⟩
theorem Mod.set1 (w : World) (b i : Nat) (u : Value) : Mod (· = b) w (w.setCell ⟨b, i, none⟩ u) := (Mod.refl (· = b) w).setCell (p := ⟨b, i, none⟩) (Or.inl rfl) u
theorem Mod.below {w w' : World} (h : Mod (fun _ => False) w w') : Below w.heap.size w w' :=
  ⟨h.os, h.tape, h.output, h.size, fun k hk => h.block k hk (fun x => x)⟩
theorem Mod.of_below {S : Nat → Prop} {w w' : World} (h : Below w.heap.size w w') : Mod S w w' :=
  ⟨h.os, h.tape, h.output, h.size, fun k hk _ => h.block k hk⟩

/-- the cells of a block that is known whole -/
theorem cell_of {w : World} {b : Nat} {cs : Array Value} {e : TypeId} (h : w.heap[b]? = some (.cells cs e (0, 0))) (i : Nat) : w.cell? ⟨b, i, none⟩ = cs[i]? := by
  simp [World.cell?, h]
theorem free_of {w : World} {b : Nat} {cs : Array Value} {e : TypeId} (h : w.heap[b]? = some (.cells cs e (0, 0))) (i : Nat) : w.frozen? ⟨b, i, none⟩ = false := by
  simp [World.frozen?, h]
theorem heap_set {w : World} {b : Nat} {cs : Array Value} {e : TypeId} (h : w.heap[b]? = some (.cells cs e (0, 0))) (i : Nat) (v : Value) :
    (w.setCell ⟨b, i, none⟩ v).heap[b]? = some (.cells (cs.setIfInBounds i v) e (0, 0)) := by
  simp [World.setCell, Array.getElem?_modify, h]
theorem lt_of {w : World} {b : Nat} {o : Obj} (h : w.heap[b]? = some o) : b < w.heap.size := by
  rcases Nat.lt_or_ge b w.heap.size with g | g
  · exact g
  · simp [Array.getElem?_eq_none g] at h

/-- a slice of one-cell elements that reads as xs; its block meets P -/
def SlAt (w : World) (P : Nat → Prop) (v : Value) (xs : List Value) : Prop :=
  (xs = [] ∧ ∃ a c, v = .slice a 0 c) ∨ ∃ g off cap, v = .slice (some ⟨g, off, none⟩) xs.length cap ∧ P g ∧ g < w.heap.size ∧ xs.length ≤ cap ∧ ∀ j u, xs[j]? = some u → w.cell? ⟨g, off + j, none⟩ = some u
theorem SlAt.mod {w w' : World} {P S : Nat → Prop} {v : Value} {xs : List Value} (h : SlAt w P v xs) (hm : Mod S w w') (hp : ∀ g, P g → g < w.heap.size → ¬ S g) : SlAt w' P v xs := by
  rcases h with h | ⟨g, off, cap, h1, h2, h3, h4, h5⟩
  · exact .inl h
  · exact .inr ⟨g, off, cap, h1, h2, Nat.lt_of_lt_of_le h3 hm.size, h4, fun j u hj => (World.cell?_of_block (hm.block g h3 (hp g h2 h3))).trans (h5 j u hj)⟩
theorem SlAt.imp {w : World} {P Q : Nat → Prop} {v : Value} {xs : List Value} (h : SlAt w P v xs) (hp : ∀ g, P g → Q g) : SlAt w Q v xs := by
  rcases h with h | ⟨g, off, cap, h1, h2, h3⟩
  · exact .inl h
  · exact .inr ⟨g, off, cap, h1, hp g h2, h3⟩
theorem SlAt.of_owns {w : World} {base n : Nat} {e : TypeId} {v : Value} {xs : List Value} (h : w.ownsRow base e 1 v n xs) : SlAt w (base ≤ ·) v xs := by
  obtain ⟨h1, h2⟩ := h
  obtain rfl : xs.length = n := by omega
  rcases h2 with ⟨h2, h3⟩ | ⟨g, cap, cur, hv, hg, hh, hn, hm, hs, ht⟩
  · exact .inl ⟨List.eq_nil_of_length_eq_zero h3, _, _, h2⟩
  · refine .inr ⟨g, 0, cap, hv, hg, lt_of hh, hn, fun j u hj => ?_⟩
    rw [Nat.zero_add, cell_of hh, ← Array.getElem?_toList]
    rw [← ht, Nat.mul_one, List.getElem?_take] at hj
    split at hj
    · exact hj
    · cases hj
/-- .. said of one place after the other -/
theorem SlAt.form {w : World} {P : Nat → Prop} {v : Value} {xs : List Value} (h : SlAt w P v xs) : ∃ a cap, v = .slice a xs.length cap ∧ xs.length ≤ cap ∧
    ∀ j u, xs[j]? = some u → ∃ g off, a = some ⟨g, off, none⟩ ∧ P g ∧ g < w.heap.size ∧ w.cell? ⟨g, off + j, none⟩ = some u := by
  rcases h with ⟨rfl, a, c, rfl⟩ | ⟨g, off, cap, h1, h2, h3, h4, h5⟩
  · exact ⟨a, c, rfl, Nat.zero_le _, fun j u hj => by simp at hj⟩
  · exact ⟨_, cap, h1, h4, fun j u hj => ⟨g, off, rfl, h2, h3, h5 j u hj⟩⟩
theorem strs_get {l : List ByteArray} {k : Nat} (h : k < l.length) : (l.map Value.string)[k]? = some (.string l[k]) := by
  rw [List.getElem?_map, List.getElem?_eq_getElem h]; rfl
theorem Mod.of_grown {w w' : World} {row : Option Nat} (h : w.grownBy w' row) : Mod (fun k => some k = row) w w' := ⟨h.os, h.tape, h.output, h.size, fun k hk hs => h.block k hk hs⟩
/-- a store, an append in what is new (since w) turns nothing that was there at w -/
theorem Mod.thenGrown {S : Nat → Prop} {w wr w' : World} {row : Option Nat} (h : Mod S w wr) (hg : wr.grownBy w' row) (hr : ∀ k, row = some k → w.heap.size ≤ k) : Mod S w w' :=
  h.trans' (Mod.of_grown hg) fun k hk e => by have := hr k e.symm; omega

theorem owns_mod {w w' : World} {base size n : Nat} {e : TypeId} {v : Value} {xs : List Value} {S : Nat → Prop} (h : w.ownsRow base e size v n xs) (hm : Mod S w w') (hS : ∀ k, base ≤ k → ¬ S k) : w'.ownsRow base e size v n xs := by
  refine ⟨h.1, ?_⟩
  rcases h.2 with hn | ⟨g, cap, cur, rfl, hb, hgg, rest⟩
  · exact .inl hn
  · exact .inr ⟨g, cap, cur, rfl, hb, (hm.block g (lt_of hgg) (hS g hb)).trans hgg, rest⟩
theorem new_one (w : World) (x : Value) (e : TypeId) : ∀ j u, ([x] : List Value)[j]? = some u → (w.alloc (.cells #[x] e)).cell? ((⟨w.heap.size, 0, none⟩ : Addr).add j) = some u := by
  intro j u hj
  cases j with
  | zero =>
    simp at hj
    subst hj
    rw [show ((⟨w.heap.size, 0, none⟩ : Addr).add 0) = ⟨w.heap.size, 0, none⟩ from rfl, World.cell?_alloc_new]
    rfl
  | succ j => simp at hj

theorem res1 {fn : Func} {t : Tmp} {tmps : Array Value} {P : Program} {w : World} {v : Value} (h : fn.results = #[.tmp t]) (hv : tmps.getD t undef = v) : (results fn tmps).run P w = .ok v w := by
  rw [← hv]; exact results_tmp h tmps P w
/-- a text out of a list of bytes -/
def bs (l : List UInt8) : ByteArray := ⟨l.toArray⟩
theorem bs_data (l : List UInt8) : (bs l).data.toList = l := rfl
theorem bs_size (l : List UInt8) : (bs l).size = l.length := rfl
theorem bs_of (s : ByteArray) : bs s.data.toList = s := rfl
theorem bs_cat (l m : List UInt8) : bs (l ++ m) = bs l ++ bs m := (ByteArray.mk_append_mk l m).symm
/-- 'string(b)', b's cells being the bytes l -/
theorem conv_string {P : Program} (w : World) (src dst e : TypeId) (g off cap : Nat) (l : List UInt8) (n : Nat) (hn : n = l.length)
    (hs : P.underlying src = some (.slice e)) (he : P.underlying e = some (.int .u8)) (hd : P.underlying dst = some .string)
    (hc : ∀ j (hj : j < l.length), w.cell? ⟨g, off + j, none⟩ = some (.int .u8 (l[j].toNat : Int))) :
    (convert src dst (.slice (some ⟨g, off, none⟩) n cap)).run P w = .ok (.string (bs l)) w := by
  subst hn
  refine run_convert_bytes_back w src dst e ⟨g, off, none⟩ cap l hs he hd fun j hj => ?_
  have hplain : (⟨g, off, none⟩ : Addr).add j = ⟨g, off + j, none⟩ := by unfold Addr.add; split <;> simp_all
  rw [hplain]; exact hc j hj
/-- 'make([]T, n)' of one-cell elements -/
theorem make_row {P : Program} (t e : TypeId) (z : Value) (bytes : Nat) (n : Nat) (ht : P.underlying t = some (.slice e)) (hi : (P.info? e).map (fun i => (i.zero, i.size, i.bytes)) = some (some z, 1, bytes)) (hz : z.cells = #[z])
    (hb : bytes * n ≤ 281474976710656) (hm : n ≤ maxLen) : ∀ w : World, (Instr.makeSlice t (.int .i64 n) (.int .i64 n)).run P w = .ok (.slice (some ⟨w.heap.size, 0, none⟩) n n) (w.alloc (.cells (List.replicate n z).toArray e)) := by
  intro w
  obtain ⟨i0, hi0, h0, h1, h2⟩ := info_parts hi
  unfold maxLen at hm
  have h := run_make (P := P) w t e i0 z ht hi0 h0 .i64 .i64 (n : Int) (n : Int) (by omega) (Int.le_refl _) (by rw [h2, ← Int.natCast_mul]; omega) (by omega)
  rw [h1, hz, Nat.mul_one, Int.toNat_natCast] at h
  rw [h, ← toList_madeCells_one]
theorem make_rowI {P : Program} (t e : TypeId) (z : Value) (bytes : Nat) (n : Nat) (N : Int) (hN : N = n) (ht : P.underlying t = some (.slice e)) (hi : (P.info? e).map (fun i => (i.zero, i.size, i.bytes)) = some (some z, 1, bytes)) (hz : z.cells = #[z])
    (hb : bytes * n ≤ 281474976710656) (hm : n ≤ maxLen) : ∀ w : World, (Instr.makeSlice t (.int .i64 N) (.int .i64 N)).run P w = .ok (.slice (some ⟨w.heap.size, 0, none⟩) n n) (w.alloc (.cells (List.replicate n z).toArray e)) := by
  subst hN; exact make_row t e z bytes n ht hi hz hb hm
theorem new_at (w : World) (o : Obj) : (w.alloc o).heap[w.heap.size]? = some o := heap_alloc_new w o
theorem new_at' (w : World) (o : Obj) (k : Nat) (hk : k = w.heap.size) : (w.alloc o).heap[k]? = some o := by subst hk; exact new_at w o
theorem alloc_keep {w : World} {o : Obj} {k : Nat} {x : Obj} (h : w.heap[k]? = some x) : (w.alloc o).heap[k]? = some x := by
  rw [Below.heap_alloc _ _ _ (lt_of h)]; exact h
/-- bytes as cells -/
def bc (l : List UInt8) : List Value := l.map fun b => Value.int .u8 (b.toNat : Int)
theorem bc_length (l : List UInt8) : (bc l).length = l.length := List.length_map _
theorem bc_one (l : List UInt8) : ∀ v ∈ bc l, v.oneCell' = true := by
  intro v hv
  simp only [bc, List.mem_map] at hv
  obtain ⟨b, _, rfl⟩ := hv
  rfl
theorem bc_zeros (n : Nat) : List.replicate n (Value.int .u8 0) = bc (List.replicate n 0) := by simp [bc]
theorem bc_get (l : List UInt8) (j : Nat) : (bc l)[j]? = l[j]?.map fun b => Value.int .u8 (b.toNat : Int) := by simp [bc]
/-- a row of bytes -/
def BRow (w : World) (g : Nat) (l : List UInt8) (e : TypeId) : Prop := w.heap[g]? = some (.cells (bc l).toArray e (0, 0))
theorem BRow.cell {w : World} {g : Nat} {l : List UInt8} {e : TypeId} (h : BRow w g l e) (j : Nat) (hj : j < l.length) : w.cell? ⟨g, j, none⟩ = some (.int .u8 (l[j].toNat : Int)) := by
  rw [cell_of h, ← Array.getElem?_toList, List.toList_toArray, bc_get, List.getElem?_eq_getElem hj]; rfl
theorem BRow.mod {w w' : World} {g : Nat} {l : List UInt8} {e : TypeId} {S : Nat → Prop} (h : BRow w g l e) (hm : Mod S w w') (hs : ¬ S g) : BRow w' g l e := (hm.block g (lt_of h) hs).trans h
/-- 'copy(dst, s)', s a text that fits, dst in a row of bytes -/
theorem wpl_copy_string {P : Program} {w : World} {ops : Array Oper} {rest : List Oper} {o : Oper} {a : Act} {Q : Exit → Act → World → Prop} (hgd : o.guard = none) (d s : Operand) (dT sT : TypeId)
    (ho : o.op = .call { callee := .builtin .copy, args := #[d, s], argTypes := #[dT, sT] }) (elem : TypeId) (hu : P.underlying dT = some (.slice elem)) (hsz : (P.info? elem).map (·.size) = some 1)
    (g off dLen dCap : Nat) (hd : a.eval d = .slice (some ⟨g, off, none⟩) dLen dCap) (t : ByteArray) (hs : a.eval s = .string t) (l : List UInt8) (e : TypeId) (hg : BRow w g l e) (hle : t.size ≤ dLen) (hfit : off + t.size ≤ l.length)
    (h : ∀ w', BRow w' g (l.take off ++ t.data.toList ++ l.drop (off + t.size)) e → Mod (· = g) w w' → wpList P ops Q rest (a.put o.dst (goInt t.size)) w') : wpList P ops Q (o :: rest) a w := by
  refine wpList_plain hgd fun K hK => ?_
  have hrun := Lib.run_copy_row_string (P := P) w dT sT o.type elem g off dLen dCap t (bc l).toArray e hu hsz hg hle (by simpa [bc_length] using hfit)
  unfold Oper.wp
  simp [execOp, ho, resolve, invoke, builtin, hd, hs, hrun, Result.andThen]
  refine hK _ _ (h _ ?_ ⟨rfl, rfl, rfl, by simp [World.setRow], fun k _ hk => setRow_other w g k _ hk⟩)
  unfold BRow
  rw [setRow_heap w g _ _ e (0, 0) hg]
  simp only [bc, Lib.byteCells, List.map_append, List.map_take, List.map_drop, List.append_assoc]
/-- 'copy(dst, "")' -/
theorem wpl_copy_empty {P : Program} {w : World} {ops : Array Oper} {rest : List Oper} {o : Oper} {a : Act} {Q : Exit → Act → World → Prop} (hgd : o.guard = none) (d s : Operand) (dT sT : TypeId)
    (ho : o.op = .call { callee := .builtin .copy, args := #[d, s], argTypes := #[dT, sT] }) (elem : TypeId) (hu : P.underlying dT = some (.slice elem)) (hsz : (P.info? elem).map (·.size) = some 1)
    (da : Option Addr) (dLen dCap : Nat) (hd : a.eval d = .slice da dLen dCap) (t : ByteArray) (hs : a.eval s = .string t) (h0 : t.size = 0)
    (h : wpList P ops Q rest (a.put o.dst (goInt 0)) w) : wpList P ops Q (o :: rest) a w := by
  refine wpList_plain hgd fun K hK => ?_
  have hrun := Lib.run_copy_empty_string (P := P) w dT sT o.type elem da dLen dCap t hu (by cases hq : P.info? elem <;> simp [hq] at hsz ⊢) h0
  unfold Oper.wp
  simp [execOp, ho, resolve, invoke, builtin, hd, hs, hrun, Result.andThen]
  exact hK _ _ h
/-- 'string(b)', b a row of bytes from its head -/
theorem conv_row {P : Program} {w : World} (src dst e : TypeId) (g n cap : Nat) (l : List UInt8) (h : BRow w g l e) (hn : n = l.length)
    (hs : P.underlying src = some (.slice e)) (he : P.underlying e = some (.int .u8)) (hd : P.underlying dst = some .string) :
    (convert src dst (.slice (some ⟨g, 0, none⟩) n cap)).run P w = .ok (.string (bs l)) w :=
  conv_string w src dst e g 0 cap l n hn hs he hd fun j hj => by rw [Nat.zero_add]; exact h.cell j hj
/-- 'string(b)', b just made -/
theorem conv_new {P : Program} (src dst e : TypeId) (n : Nat) (l : List UInt8) (hn : n = l.length)
    (hs : P.underlying src = some (.slice e)) (he : P.underlying e = some (.int .u8)) (hd : P.underlying dst = some .string) :
    ∀ w : World, (convert src dst (.slice (some ⟨w.heap.size, 0, none⟩) n n)).run P (w.alloc (.cells (bc l).toArray e)) = .ok (.string (bs l)) (w.alloc (.cells (bc l).toArray e)) :=
  fun w => conv_row src dst e w.heap.size n n l (new_at _ _) hn hs he hd
theorem conv_new_drew {P : Program} (src dst e : TypeId) (n : Nat) (l : List UInt8) (hn : n = l.length)
    (hs : P.underlying src = some (.slice e)) (he : P.underlying e = some (.int .u8)) (hd : P.underlying dst = some .string) :
    ∀ w : World, (convert src dst (.slice (some ⟨w.heap.size, 0, none⟩) n n)).run P (w.alloc (.cells (bc l).toArray e)).drew = .ok (.string (bs l)) (w.alloc (.cells (bc l).toArray e)).drew :=
  fun w => conv_row src dst e w.heap.size n n l (show BRow ((w.alloc (.cells (bc l).toArray e)).drew) w.heap.size l e from new_at _ _) hn hs he hd
/-- the capacity cut -/
theorem SlAt.recap {w : World} {P : Nat → Prop} {a : Addr} {n cap c : Nat} {xs : List Value} (h : SlAt w P (.slice (some a) n cap) xs) (hc : xs.length ≤ c) : SlAt w P (.slice (some a) n c) xs := by
  rcases h with ⟨hx, a', c', h⟩ | ⟨g, off, cap', h1, h2, h3, h4, h5⟩
  · injection h with e1 e2 e3
    exact .inl ⟨hx, some a, c, by rw [e2]⟩
  · injection h1 with e1 e2 e3
    exact .inr ⟨g, off, c, by rw [e1, e2], h2, h3, hc, h5⟩
/-- an append to what is the call's own turns nothing below -/
theorem grow_keep {w w' : World} {base size n b : Nat} {e : TypeId} {v : Value} {xs : List Value} {o : Obj} (h : w.ownsRow base e size v n xs) (hg : (w.alloc o).grownBy w' v.ownBlock) (hb : b < base) (hw : b < w.heap.size) : w'.heap[b]? = w.heap[b]? := by
  rw [hg.block b (by rw [World.size_alloc]; omega) (fun x => by have := (h.lt b x.symm).1; omega), Below.heap_alloc _ _ _ hw]
theorem grow_mod {w0 w w' : World} {S : Nat → Prop} {base size n : Nat} {e : TypeId} {v : Value} {xs : List Value} {o : Obj} (hm : Mod S w0 w) (h : w.ownsRow base e size v n xs) (hg : (w.alloc o).grownBy w' v.ownBlock) (hb : w0.heap.size ≤ base) : Mod S w0 w' :=
  (hm.alloc o).trans' (Mod.of_grown hg) fun k hk x => by have := (h.lt k x.symm).1; omega

/-- '[]byte(s)': a new row -/
theorem conv_bytes {P : Program} (w : World) (src dst e : TypeId) (s : ByteArray) {u : TypeDesc}
    (hs : P.underlying src = some u) (hd : P.underlying dst = some (.slice e)) (he : P.underlying e = some (.int .u8)) :
    ∃ w' c, (convert src dst (.string s)).run P w = .ok (.slice (some ⟨w.heap.size, 0, none⟩) s.size c) w' ∧
      (∀ j, j < s.size → w'.cell? ⟨w.heap.size, j, none⟩ = some (.int .u8 (s.data.toList.getD j 0).toNat)) ∧ Mod (fun _ => False) w w' ∧ w.heap.size < w'.heap.size :=
  ⟨_, _, Lib.run_convert_string_bytes w src dst e s hs hd he, fun j hj => Lib.bytesWorld_cell w e s j hj,
    ⟨rfl, rfl, rfl, by rw [Lib.bytesWorld_size]; omega, fun k hk _ => Lib.bytesWorld_at_old w e s k hk⟩, by rw [Lib.bytesWorld_size]; omega⟩

theorem ret_int {k : IntKind} {a b : Int} (h : a = b) : Ending.returned (.int k a) = .returned (.int k b) := by rw [h]
theorem ret_str {a b : ByteArray} (h : a = b) : Ending.returned (.string a) = .returned (.string b) := by rw [h]
theorem ret_bool {a b : Bool} (h : a = b) : Ending.returned (.bool a) = .returned (.bool b) := by rw [h]
end Go.Proofs.YtklpopmjpgdjnaaGreatDoor
namespace Go.Proofs.YtklpopmjpgdjnaaGreatDoor
open Go.ChangeShapes Go.WideShapes Go.ChangeAt Go.RowKit
theorem own_knob : ownKnob Tryz.prog.godebug = none := by kernel_rfl
theorem laid_out : laidOutB Tryz.prog = true := by kernel_rfl

theorem trodAll_below {H : Type} {enc : TypeId × Value → H} {P : Program} (hl : laidOutB P = true) {W W' : World} (hb : Below W.heap.size W W') :
    ∀ (ts : List TypeId) (vs : List Value) (ds : List (DataW H)) (ps : List MemPlace), (∀ t ∈ ts, P.readableRec t = true ∧ t < P.types.size) → DataW.TrodAll enc P W 0 (fun _ => true) true ts vs ds ps → (∀ x ∈ ps, x.block < W.heap.size) →
      DataW.TrodAll enc P W' 0 (fun b => decide (b < W.heap.size)) true ts vs ds ps
  | [], vs, ds, ps, _, h, _ => by
    obtain ⟨rfl, rfl, rfl⟩ := trodAll_nil h
    exact trodAll_mk0
  | t :: ts, vs, ds, ps, ht, h, hlt => by
    obtain ⟨v0, vs0, d0, ds0, p0, q0, rfl, rfl, rfl, h0, r0⟩ := trodAll_cons h
    exact trodAll_cons_mk (Below.trod hl (ht t (List.mem_cons_self ..)).1 (ht t (List.mem_cons_self ..)).2 h0 hb (fun x hx => hlt x (List.mem_append_left _ hx)))
      (trodAll_below hl hb ts vs0 ds0 q0 (fun t ht' => ht t (List.mem_cons_of_mem _ ht')) r0 (fun x hx => hlt x (List.mem_append_right _ hx)))

/-- A LAW's ROW, behind a call that answers true and turns nothing that was there. -/
theorem law_post {H : Type} {enc : TypeId × Value → H} {f : Func} {s : ChangeSpec} {W W' : World} {args : Array Value} {ds gs : List (DataW H)} {before : List MemPlace}
    (hW : DataW.Whole enc Tryz.prog f.params.toList s.vars false W args.toList ds gs before) (hm : Mod (fun _ => False) W W')
    (hts0 : (f.params.toList.all fun t => Tryz.prog.readableRec t && decide (t < Tryz.prog.types.size)) = true) (hsv : s.vars = []) (hret : f.resultTypes = #[4])
    (hres : (s.fn H ds).results = [.lit (.bool true)]) (hargs : (s.fn H ds).args = ds) (hvs : (s.fn H ds).vars = []) :
    s.post enc Tryz.prog f false true false false W args (.bool true) W' := by
  have hlt : ∀ p ∈ before, p.block < W.heap.size := fun p hp => hW.lt p hp
  have hts : ∀ t ∈ f.params.toList, Tryz.prog.readableRec t = true ∧ t < Tryz.prog.types.size := fun t ht => by
    have := List.all_eq_true.1 hts0 t ht
    rw [Bool.and_eq_true] at this
    exact ⟨this.1, of_decide_eq_true this.2⟩
  obtain ⟨p, q, hA, hV, hpq, hfz, hnd⟩ := hW
  have hV0 := hV
  rw [hsv] at hV0
  obtain ⟨hg, hq⟩ := trodVars_none hV0
  have hds : ds ++ gs = ds := by rw [hg, List.append_nil]
  refine ⟨ds, gs, before, [], p, q, ⟨p, q, hA, hV, hpq, hfz, hnd⟩, ?_, ?_, ?_, hm.below.frame _, fun h => by cases h⟩
  all_goals rw [hds]
  · rw [hret, hres]
    exact trodAll_cons_mk (shut_bool Tryz.underlying4 true) trodAll_mk0
  · rw [hargs]
    exact trodAll_below laid_out hm.below _ _ _ _ hts hA (fun x hx => hlt x (by rw [hpq]; exact List.mem_append_left _ hx))
  · rw [hsv, hvs, hq]
    exact rfl
theorem addr_form {w : World} {a : Addr} {v : Value} (h : w.cell? a = some v) : a = ⟨a.block, a.off, none⟩ := by
  obtain ⟨b, o, sp⟩ := a
  cases sp with
  | none => rfl
  | some _ =>
    exfalso
    unfold World.cell? at h
    split at h
    · simp at h
    · cases h

theorem u64_of {x : Int} (h : (Lit.int .u64 x).wf = true) : ∃ y : Nat, x = y ∧ y < 18446744073709551616 := by
  simp [Lit.wf, IntKind.min, IntKind.max, IntKind.bits, IntKind.signed] at h
  exact ⟨x.toNat, by omega, by omega⟩
theorem i64_of {x : Int} (h : (Lit.int .i64 x).wf = true) : -9223372036854775808 ≤ x ∧ x ≤ 9223372036854775807 := by
  simp [Lit.wf, IntKind.min, IntKind.max, IntKind.bits, IntKind.signed] at h
  omega
theorem add_plain (g off x : Nat) : (⟨g, off, none⟩ : Addr).add x = ⟨g, off + x, none⟩ := by
  unfold Addr.add
  split
  · rename_i h; rw [h]; rfl
  · rfl
set_option maxRecDepth 100000 in
/-- an argument that is a slice, element by element: each element's cells, and that they read -/
theorem arg_slice {H : Type} {enc : TypeId × Value → H} {W : World} {base c0 : Nat} {t e : TypeId} {v : Value} {d : DataW H} {ps : List MemPlace} (ht : Tryz.prog.underlying t = some (.slice e)) (hc : Tryz.prog.cellsOf e = c0) (h0 : 0 < c0) (hval : Value.okWide Tryz.prog W .any base t v)
    (h : DataW.Trod enc Tryz.prog W 0 (fun _ => true) true t v d ps) : ∃ (a : Option Addr) (len cap : Nat) (row : Nat → List Value), v = .slice a len cap ∧ len ≤ maxLen ∧ ∀ i, i < len → (row i).length = c0 ∧
      (∃ g off, a = some ⟨g, off, none⟩ ∧ g < W.heap.size ∧ ∀ j, j < c0 → W.cell? ⟨g, off + (i * c0 + j), none⟩ = (row i)[j]?) ∧ ∃ n y, DataW.trod enc Tryz.prog W 0 (fun _ => true) true n e (row i) = some y := by
  subst hc
  obtain ⟨a0, len, cap, rfl⟩ := okWide_slice ht hval
  obtain ⟨fuel, hf⟩ := h
  rcases Go.Deep.open_slice ht hf with ⟨hcs, hx⟩ | ⟨a, len', cap', m, n, D, Pl, hcs, _, hl, hm, hmm, hx, hi⟩
  · simp only [Value.cells, List.cons.injEq, and_true] at hcs
    injection hcs with e1 e2 e3
    have hl0 : len ≤ maxLen := by rw [e2]; exact Nat.zero_le _
    exact ⟨a0, len, cap, fun _ => [], rfl, hl0, fun i hi => by omega⟩
  · simp only [Value.cells, List.cons.injEq, and_true] at hcs
    injection hcs with e1 e2 e3
    subst e1 e2 e3
    simp only [if_true] at hmm
    subst hmm
    have hex : ∀ i, ∃ cs', i < len → W.cells? 0 (a.add (i * Tryz.prog.cellsOf e)) (Tryz.prog.cellsOf e) = some cs' ∧ DataW.trod enc Tryz.prog W 0 (fun _ => true) true n e cs' = some (D i, Pl i) := by
      intro i
      by_cases h : i < len
      · obtain ⟨cs', h1, h2⟩ := hi i (by omega)
        exact ⟨cs', fun _ => ⟨h1, h2⟩⟩
      · exact ⟨[], fun x => absurd x h⟩
    refine ⟨some a, _, _, fun i => (hex i).choose, rfl, by omega, fun i hlt => ?_⟩
    obtain ⟨h1, h2⟩ := (hex i).choose_spec hlt
    obtain ⟨_, hlen, hat⟩ := World.cells?_some h1
    have hc0 := hat 0 h0
    rw [List.getElem?_eq_getElem (by omega)] at hc0
    have ha0 : ∃ g off, a = ⟨g, off, none⟩ := by
      have h00 := (hex 0).choose_spec (by omega)
      have hb := (World.cells?_some h00.1).2.2 0 h0
      rw [List.getElem?_eq_getElem (by have := (World.cells?_some h00.1).2.1; omega)] at hb
      have h3 := addr_form hb
      rw [Nat.zero_mul] at h3
      exact ⟨a.block, a.off, h3⟩
    obtain ⟨g, off, rfl⟩ := ha0
    have hadd : ∀ x y, ((⟨g, off, none⟩ : Addr).add x).add y = ⟨g, off + (x + y), none⟩ := fun x y => by
      rw [add_plain, add_plain, Nat.add_assoc]
    refine ⟨hlen, ⟨g, off, rfl, ?_, fun j hj => ?_⟩, n, _, h2⟩
    · have := World.block_lt_of_cell? _ _ hc0
      rw [hadd] at this
      exact this
    · have := hat j hj
      rw [hadd] at this
      exact this
end Go.Proofs.YtklpopmjpgdjnaaGreatDoor
namespace Go.Proofs.YtklpopmjpgdjnaaGreatDoor

/-- a reader: its bytes, its place, its fault -/
structure Rd where
  s : ByteArray
  at_ : Nat
  f : Int

def Rd.bytes (r : Rd) (n : Int) : ByteArray × Rd :=
  if r.f ≠ 0 then (ByteArray.empty, r)
  else if n < 0 then (ByteArray.empty, { r with f := 2 })
  else if r.s.size < r.at_ + n.toNat then (ByteArray.empty, { r with f := 50 })
  else (r.s.extract r.at_ (r.at_ + n.toNat), { r with at_ := r.at_ + n.toNat, f := 0 })

theorem Rd.bytes_size_le (r : Rd) (k : Nat) : (r.bytes k).1.size ≤ k := by
  unfold Rd.bytes
  repeat' split
  all_goals simp [ByteArray.size_extract]
  all_goals omega

/-- a number, the lowest byte first -/
def leNat : List UInt8 → Nat
  | [] => 0
  | c :: l => c.toNat + 256 * leNat l

def Rd.num (r : Rd) (k : Nat) : Nat × Rd := (leNat (r.bytes k).1.data.toList, (r.bytes k).2)

/-- so many bytes of a number, the lowest first -/
def leBytes : Nat → Nat → List UInt8
  | 0, _ => []
  | n + 1, x => UInt8.ofNat x :: leBytes n (x / 256)
theorem leBytes_length (n x : Nat) : (leBytes n x).length = n := by
  induction n generalizing x with
  | zero => rfl
  | succ n ih => simp [leBytes, ih]
theorem leBytes_get (n x j : Nat) (h : j < (leBytes n x).length) : ((leBytes n x)[j]).toNat = x / 2 ^ (8 * j) % 256 := by
  induction n generalizing x j with
  | zero => exact absurd h (Nat.not_lt_zero _)
  | succ n ih =>
    cases j with
    | zero => simp [leBytes]
    | succ j =>
      have h' : j < (leBytes n (x / 256)).length := by simpa [leBytes] using h
      have := ih (x / 256) j h'
      simp only [leBytes, List.getElem_cons_succ]
      rw [this, Nat.div_div_eq_div_mul, show 8 * (j + 1) = 8 + 8 * j from by omega, Nat.pow_add]
theorem leBytes_mod (n x : Nat) : leBytes n (x % 2 ^ (8 * n)) = leBytes n x := by
  induction n generalizing x with
  | zero => rfl
  | succ n ih =>
    have e1 : x % 2 ^ (8 * (n + 1)) / 256 = (x / 256) % 2 ^ (8 * n) := by
      rw [show 8 * (n + 1) = 8 + 8 * n from by omega, Nat.pow_add, show (2 : Nat) ^ 8 = 256 from rfl, Nat.mod_mul_right_div_self]
    have e2 : UInt8.ofNat (x % 2 ^ (8 * (n + 1))) = UInt8.ofNat x := by
      apply UInt8.toNat_inj.1
      rw [UInt8.toNat_ofNat', UInt8.toNat_ofNat']
      rw [show 8 * (n + 1) = 8 + 8 * n from by omega, Nat.pow_add, Nat.mod_mul_right_mod]
    rw [leBytes, leBytes, e1, ih, e2]
theorem leNat_leBytes (n x : Nat) : leNat (leBytes n x) = x % 2 ^ (8 * n) := by
  induction n generalizing x with
  | zero => simp [leBytes, leNat, Nat.mod_one]
  | succ n ih =>
    rw [leBytes, leNat, ih, show 8 * (n + 1) = 8 + 8 * n from by omega, Nat.pow_add, Nat.mod_mul]
    simp

theorem leNat_append (l m : List UInt8) : leNat (l ++ m) = leNat l + 2 ^ (8 * l.length) * leNat m := by
  induction l with
  | nil => simp [leNat]
  | cons c l ih =>
    simp only [List.cons_append, leNat, ih, List.length_cons]
    rw [show 8 * (l.length + 1) = 8 * l.length + 8 from by omega, Nat.pow_add]
    generalize 2 ^ (8 * l.length) = q
    rw [show (2 : Nat) ^ 8 = 256 from rfl, Nat.mul_add, Nat.mul_comm q 256, Nat.mul_assoc]
    omega
theorem leNat_lt (l : List UInt8) : leNat l < 2 ^ (8 * l.length) := by
  induction l with
  | nil => simp [leNat]
  | cons c l ih =>
    simp only [leNat, List.length_cons]
    rw [show 8 * (l.length + 1) = 8 * l.length + 8 from by omega, Nat.pow_add]
    have := c.toNat_lt
    omega

/-- what a reader's round does: one byte more, shifted to its place -/
theorem le_or (l : List UInt8) (c : UInt8) (k : Nat) (hl : l.length = k) (hk : k < 8) :
    bits BinOp.or IntKind.u64 (leNat l : Int) (IntKind.u64.wrap (IntKind.u64.wrap (c.toNat : Int) * 2 ^ (8 * k))) = (leNat (l ++ [c]) : Int) := by
  have h1 := leNat_lt l
  have hc := c.toNat_lt
  have hp : (2 : Nat) ^ (8 * k) * 256 ≤ 18446744073709551616 := by
    have : (2 : Nat) ^ (8 * k + 8) ≤ 2 ^ 64 := Nat.pow_le_pow_right (by omega) (by omega)
    rw [Nat.pow_add] at this
    omega
  rw [hl] at h1
  rw [leNat_append, hl]
  generalize hq : 2 ^ (8 * k) = q at *
  have hq' : (2 : Int) ^ (8 * k) = (q : Int) := by rw [← hq]; push_cast; rfl
  have h2 : c.toNat * q ≤ 255 * q := Nat.mul_le_mul_right q (by omega)
  rw [hq', show IntKind.u64.wrap (c.toNat : Int) = (c.toNat : Int) from by rw [IntKind.wrap_u64]; omega]
  rw [show IntKind.u64.wrap ((c.toNat : Int) * (q : Int)) = ((c.toNat * q : Nat) : Int) from by rw [IntKind.wrap_u64, ← Int.natCast_mul]; omega]
  rw [u64_or_nat _ _ (by omega) (by omega), Nat.or_comm, nat_join (8 * k) _ _ (by rw [hq]; exact Nat.mul_mod_left _ _) (by rw [hq]; exact h1)]
  simp only [leNat, Nat.mul_zero, Nat.add_zero]
  rw [Nat.mul_comm, Nat.add_comm]

theorem take_snoc (s : ByteArray) (k : Nat) (h : k < s.size) : s.data.toList.take (k + 1) = s.data.toList.take k ++ [s.data[k]] := by
  rw [List.take_succ_eq_append_getElem (by simpa using h)]; rfl
theorem le_round (t : ByteArray) (k : Nat) (h : k < t.size) (hk : k < 8) :
    bits BinOp.or IntKind.u64 (leNat (t.data.toList.take k) : Int) (IntKind.u64.wrap (IntKind.u64.wrap ((t.data[k]).toNat : Int) * 2 ^ (8 * k))) = (leNat (t.data.toList.take (k + 1)) : Int) := by
  rw [take_snoc t k h]
  exact le_or _ _ k (by rw [List.length_take, Array.length_toList]; have : t.data.size = t.size := rfl; omega) hk
theorem take_all (t : ByteArray) : t.data.toList.take t.size = t.data.toList := List.take_of_length_le (by rw [Array.length_toList]; exact Nat.le_refl _)

/-- a deferred 'keep': behind a fault the place is put back -/
def Rd.keep (r : Rd) (a : Nat) : Rd := if r.f ≠ 0 then { r with at_ := a } else r

/-- a text: a number of two bytes, then so many; a fault puts the place back -/
def Rd.text (r : Rd) : ByteArray × Rd := (((r.num 2).2.bytes (r.num 2).1).1, ((r.num 2).2.bytes (r.num 2).1).2.keep r.at_)

theorem Rd.bytes_s (r : Rd) (n : Int) : (r.bytes n).2.s = r.s := by
  unfold Rd.bytes
  repeat' split
  all_goals rfl
theorem Rd.bytes_at (r : Rd) (n : Int) (h : r.at_ ≤ r.s.size) : (r.bytes n).2.at_ ≤ (r.bytes n).2.s.size := by
  unfold Rd.bytes
  repeat' split
  all_goals simp
  all_goals omega
theorem Rd.num_s (r : Rd) (n : Nat) : (r.num n).2.s = r.s := Rd.bytes_s r n
theorem Rd.num_at (r : Rd) (n : Nat) (h : r.at_ ≤ r.s.size) : (r.num n).2.at_ ≤ (r.num n).2.s.size := Rd.bytes_at r n h
theorem Rd.keep_s (r : Rd) (a : Nat) : (r.keep a).s = r.s := by unfold Rd.keep; split <;> rfl
theorem Rd.text_s (r : Rd) : r.text.2.s = r.s := by unfold Rd.text; simp only [Rd.keep_s, Rd.bytes_s, Rd.num_s]
theorem Rd.text_at (r : Rd) (h : r.at_ ≤ r.s.size) : r.text.2.at_ ≤ r.text.2.s.size := by
  rw [Rd.text_s]
  unfold Rd.text Rd.keep
  have := Rd.bytes_at (r.num 2).2 (r.num 2).1 (Rd.num_at r 2 h)
  rw [Rd.bytes_s, Rd.num_s] at this
  simp only
  split <;> assumption
theorem Rd.num_lt (r : Rd) (k : Nat) : (r.num k).1 < 2 ^ (8 * k) := by
  have h := leNat_lt (r.bytes k).1.data.toList
  have h2 : (r.bytes k).1.data.toList.length ≤ k := by rw [Array.length_toList]; exact Rd.bytes_size_le r k
  exact Nat.lt_of_lt_of_le h (Nat.pow_le_pow_right (by omega) (by omega))

/-- so many texts, one behind the other, till a fault -/
def Rd.textsGo : Nat → Rd → List ByteArray → Option (List ByteArray) × Rd
  | 0, r, l => (some l, r)
  | k + 1, r, l => if r.text.2.f ≠ 0 then (none, r.text.2) else Rd.textsGo k r.text.2 (l ++ [r.text.1])

/-- a list's number is at most so many -/
def Rd.cap (r : Rd) (n : Nat) (most : Int) : Rd := if r.f = 0 ∧ max most 0 < (n : Int) then { r with f := 4 } else r

def Rd.texts (r : Rd) (most : Int) : List ByteArray × Rd :=
  let g := Rd.textsGo (r.num 2).1 ((r.num 2).2.cap (r.num 2).1 most) []
  (g.1.getD [], g.2.keep r.at_)

def Rd.end_ (r : Rd) : Int := if r.f ≠ 0 then r.f else if r.at_ < r.s.size then 51 else 0

theorem extract_isEmpty (s : ByteArray) (a : Nat) (h : a ≤ s.size) : (s.extract a s.size).toList.isEmpty = decide (¬ a < s.size) := by
  rw [ByteArray.toList_eq]
  have hs : (s.extract a s.size).data.toList.length = s.size - a := by
    rw [Array.length_toList]
    show (s.extract a s.size).size = _
    simp [ByteArray.size_extract]
  cases hl : (s.extract a s.size).data.toList with
  | nil =>
    rw [hl] at hs
    simp only [List.length_nil] at hs
    rw [decide_eq_true (by omega)]; rfl
  | cons x l =>
    rw [hl] at hs
    simp only [List.length_cons] at hs
    rw [decide_eq_false (by omega)]; rfl

theorem Rd.bytes_fault (r : Rd) (n : Int) (h : r.f ≠ 0) : r.bytes n = (ByteArray.empty, r) := if_pos h
theorem Rd.bytes_empty (r : Rd) (n : Int) (h : (r.bytes n).2.f ≠ 0) : (r.bytes n).1 = ByteArray.empty := by
  revert h
  unfold Rd.bytes
  repeat' split
  all_goals simp
theorem Rd.text_empty (r : Rd) (h : ((r.num 2).2.bytes (r.num 2).1).2.f ≠ 0) : r.text.1 = ByteArray.empty := Rd.bytes_empty _ _ h
theorem Rd.text_fault (r : Rd) (h : r.f ≠ 0) : r.text = (ByteArray.empty, r) := by
  have h1 : r.num 2 = (0, r) := by unfold Rd.num; rw [Rd.bytes_fault r _ h]; rfl
  unfold Rd.text
  rw [h1]
  simp only [Rd.bytes_fault r _ h]
  unfold Rd.keep
  rw [if_pos h]
theorem Rd.textsGo_s (k : Nat) : ∀ (r : Rd) (acc : List ByteArray), (Rd.textsGo k r acc).2.s = r.s := by
  induction k with
  | zero => intro r acc; rfl
  | succ k ih =>
    intro r acc
    unfold Rd.textsGo
    split
    · exact r.text_s
    · rw [ih]; exact r.text_s
theorem Rd.textsGo_at (k : Nat) : ∀ (r : Rd) (acc : List ByteArray), r.at_ ≤ r.s.size → (Rd.textsGo k r acc).2.at_ ≤ (Rd.textsGo k r acc).2.s.size := by
  induction k with
  | zero => intro r acc h; exact h
  | succ k ih =>
    intro r acc h
    unfold Rd.textsGo
    split
    · exact r.text_at h
    · exact ih _ _ (r.text_at h)
theorem Rd.cap_s' (r : Rd) (n : Nat) (most : Int) : (r.cap n most).s = r.s ∧ (r.cap n most).at_ = r.at_ := by unfold Rd.cap; split <;> exact ⟨rfl, rfl⟩
theorem Rd.texts_s (r : Rd) (n : Int) : (r.texts n).2.s = r.s := by
  unfold Rd.texts
  simp only [Rd.keep_s, Rd.textsGo_s]
  rw [(Rd.cap_s' _ _ _).1, Rd.num_s]
theorem Rd.texts_at (r : Rd) (n : Int) (h : r.at_ ≤ r.s.size) : (r.texts n).2.at_ ≤ (r.texts n).2.s.size := by
  have h1 := Rd.textsGo_at (r.num 2).1 ((r.num 2).2.cap (r.num 2).1 n) [] (by rw [(Rd.cap_s' _ _ _).1, (Rd.cap_s' _ _ _).2]; exact Rd.num_at r 2 h)
  rw [Rd.texts_s]
  rw [Rd.textsGo_s, (Rd.cap_s' _ _ _).1, Rd.num_s] at h1
  unfold Rd.texts Rd.keep
  simp only
  split <;> assumption
theorem Rd.textsGo_fault (n : Nat) (r : Rd) (h : r.f ≠ 0) : (Rd.textsGo n r []).1.getD [] = [] ∧ (Rd.textsGo n r []).2 = r := by
  cases n with
  | zero => exact ⟨rfl, rfl⟩
  | succ n =>
    have e : Rd.textsGo (n + 1) r [] = (none, r) := by
      show (if r.text.2.f ≠ 0 then _ else _) = _
      rw [Rd.text_fault r h, if_pos h]
    rw [e]; exact ⟨rfl, rfl⟩

theorem le_shift (t : ByteArray) (k : Nat) (hk : k < t.size) (ht : t.size ≤ 8) :
    bits BinOp.or IntKind.u64 (IntKind.u64.wrap ((leNat (t.data.toList.drop (k + 1)) : Int) * 256)) (IntKind.u64.wrap (t.data[k].toNat : Int)) = (leNat (t.data.toList.drop k) : Int) := by
  have hl : k < t.data.toList.length := by rw [Array.length_toList]; exact hk
  have h1 := leNat_lt (t.data.toList.drop (k + 1))
  have hc := (t.data[k]).toNat_lt
  have h2 : (t.data.toList.drop (k + 1)).length ≤ 7 := by rw [List.length_drop, Array.length_toList]; have : t.data.size = t.size := rfl; omega
  have h3 : leNat (t.data.toList.drop (k + 1)) < 72057594037927936 := Nat.lt_of_lt_of_le h1 (by
    have : (2 : Nat) ^ (8 * (t.data.toList.drop (k + 1)).length) ≤ 2 ^ 56 := Nat.pow_le_pow_right (by omega) (by omega)
    exact this)
  rw [List.drop_eq_getElem_cons hl, leNat]
  generalize leNat (t.data.toList.drop (k + 1)) = q at *
  have e1 : IntKind.u64.wrap ((q : Int) * 256) = ((q * 256 : Nat) : Int) := by rw [IntKind.wrap_u64, Int.natCast_mul]; omega
  have e2 : IntKind.u64.wrap (t.data[k].toNat : Int) = (t.data[k].toNat : Int) := by rw [IntKind.wrap_u64]; omega
  rw [e1, e2, u64_or_nat _ _ (by omega) (by omega), nat_join 8 _ _ (by omega) (by omega)]
  have e3 : t.data.toList[k] = t.data[k] := rfl
  rw [e3]
  omega

end Go.Proofs.YtklpopmjpgdjnaaGreatDoor
namespace Go.Proofs.YtklpopmjpgdjnaaGreatDoor

structure St where
  ty : Nat
  dev : Nat
  qt : Nat
  qv : Nat
  qp : Nat
  mo : Nat
  at_ : Nat
  mt : Nat
  len : Nat
  n : ByteArray
  u : ByteArray
  g : ByteArray
  m : ByteArray
structure St.Ok (s : St) : Prop where
  ty : s.ty < 65536
  dev : s.dev < 4294967296
  qt : s.qt < 256
  qv : s.qv < 4294967296
  qp : s.qp < 18446744073709551616
  mo : s.mo < 4294967296
  at_ : s.at_ < 4294967296
  mt : s.mt < 4294967296
  len : s.len < 18446744073709551616
def St.cells (s : St) : List Value := [.int .u16 s.ty, .int .u32 s.dev, .int .u8 s.qt, .int .u32 s.qv, .int .u64 s.qp, .int .u32 s.mo, .int .u32 s.at_, .int .u32 s.mt, .int .u64 s.len, .string s.n, .string s.u, .string s.g, .string s.m]
def St.v (s : St) : Value := .agg s.cells.toArray
def qidL (t v p : Nat) : List UInt8 := leBytes 1 t ++ leBytes 4 v ++ leBytes 8 p
def txt (b : ByteArray) : List UInt8 := leBytes 2 b.size ++ b.data.toList
def St.nums (s : St) : List UInt8 := leBytes 2 s.ty ++ leBytes 4 s.dev ++ qidL s.qt s.qv s.qp ++ leBytes 4 s.mo ++ leBytes 4 s.at_ ++ leBytes 4 s.mt ++ leBytes 8 s.len
def St.body (s : St) : List UInt8 := s.nums ++ txt s.n ++ txt s.u ++ txt s.g ++ txt s.m
def St.tot (s : St) : Nat := 47 + s.n.size + s.u.size + s.g.size + s.m.size
theorem St.nums_length (s : St) : s.nums.length = 39 := by simp [St.nums, qidL, leBytes_length]
theorem txt_length (b : ByteArray) : (txt b).length = 2 + b.size := by simp [txt, leBytes_length]
theorem St.body_length (s : St) : s.body.length = s.tot := by
  simp only [St.body, List.length_append, St.nums_length, txt_length, St.tot]; omega
def encS (s : St) : ByteArray × Int := if 65535 < s.tot then (ByteArray.empty, 4) else (bs (leBytes 2 s.tot ++ s.body), 0)
theorem enc_split (s : St) : bs (leBytes 2 s.tot ++ s.body) = bs (leBytes 2 s.tot) ++ bs (leBytes 2 s.ty) ++ bs (leBytes 4 s.dev) ++ bs (qidL s.qt s.qv s.qp) ++ bs (leBytes 4 s.mo) ++ bs (leBytes 4 s.at_) ++ bs (leBytes 4 s.mt) ++ bs (leBytes 8 s.len) ++ bs (txt s.n) ++ bs (txt s.u) ++ bs (txt s.g) ++ bs (txt s.m) := by
  simp only [← bs_cat]
  simp only [St.body, St.nums, List.append_assoc]
end Go.Proofs.YtklpopmjpgdjnaaGreatDoor
namespace Go.Proofs.YtklpopmjpgdjnaaGreatDoor

def St.zero : St := ⟨0, 0, 0, 0, 0, 0, 0, 0, 0, ByteArray.empty, ByteArray.empty, ByteArray.empty, ByteArray.empty⟩
/-- so many texts, one behind the other -/
def Rd.tq (q : Rd) : Nat → Rd
  | 0 => q
  | k + 1 => (Rd.tq q k).text.2
def St.nq (q : Rd) : Rd := (((((((((q.num 2).2.num 4).2.num 1).2.num 4).2.num 8).2.num 4).2.num 4).2.num 4).2.num 8).2
def St.read (q : Rd) : St :=
  let a := q.num 2
  let b := a.2.num 4
  let c := b.2.num 1
  let d := c.2.num 4
  let e := d.2.num 8
  let f := e.2.num 4
  let g := f.2.num 4
  let h := g.2.num 4
  let i := h.2.num 8
  ⟨a.1, b.1, c.1, d.1, e.1, f.1, g.1, h.1, i.1, (i.2.tq 0).text.1, (i.2.tq 1).text.1, (i.2.tq 2).text.1, (i.2.tq 3).text.1⟩
theorem St.read_ok (q : Rd) : (St.read q).Ok := ⟨Rd.num_lt _ 2, Rd.num_lt _ 4, Rd.num_lt _ 1, Rd.num_lt _ 4, Rd.num_lt _ 8, Rd.num_lt _ 4, Rd.num_lt _ 4, Rd.num_lt _ 4, Rd.num_lt _ 8⟩
def nextS (b : ByteArray) : St × Nat × Int :=
  if (((Rd.mk b 0 0).num 2).2.bytes ((Rd.mk b 0 0).num 2).1).2.f ≠ 0 then (St.zero, 0, 50)
  else if ((St.nq ⟨(((Rd.mk b 0 0).num 2).2.bytes ((Rd.mk b 0 0).num 2).1).1, 0, 0⟩).tq 4).end_ ≠ 0 then (St.zero, 0, 51)
  else (St.read ⟨(((Rd.mk b 0 0).num 2).2.bytes ((Rd.mk b 0 0).num 2).1).1, 0, 0⟩, (((Rd.mk b 0 0).num 2).2.bytes ((Rd.mk b 0 0).num 2).1).2.at_, 0)
theorem Rd.tq_s (q : Rd) (k : Nat) : (q.tq k).s = q.s := by
  induction k with
  | zero => rfl
  | succ k ih => exact (Rd.text_s _).trans ih
theorem Rd.tq_at (q : Rd) (k : Nat) (h : q.at_ ≤ q.s.size) : (q.tq k).at_ ≤ (q.tq k).s.size := by
  induction k with
  | zero => exact h
  | succ k ih => exact Rd.text_at _ ih
def decS (b : ByteArray) : St × Int := if (nextS b).2.2 ≠ 0 then (St.zero, (nextS b).2.2) else if (nextS b).2.1 ≠ b.size then (St.zero, 51) else ((nextS b).1, 0)
theorem nextS_ok (b : ByteArray) : (nextS b).1.Ok := by
  unfold nextS
  split
  · exact ⟨by decide, by decide, by decide, by decide, by decide, by decide, by decide, by decide, by decide⟩
  · split
    · exact ⟨by decide, by decide, by decide, by decide, by decide, by decide, by decide, by decide, by decide⟩
    · exact St.read_ok _
end Go.Proofs.YtklpopmjpgdjnaaGreatDoor
namespace Go.Proofs.YtklpopmjpgdjnaaGreatDoor

structure Qd where
  t : Nat
  v : Nat
  p : Nat
structure Msg where
  ty : Nat
  tag : Nat
  msize : Nat
  version : ByteArray
  fid : Nat
  afid : Nat
  newfid : Nat
  oldtag : Nat
  uname : ByteArray
  aname : ByteArray
  ename : ByteArray
  name : ByteArray
  names : List ByteArray
  qid : Qd
  qids : List Qd
  mode : Nat
  perm : Nat
  iounit : Nat
  offset : Nat
  count : Nat
  data : ByteArray
  stat : St
structure Qd.Ok (q : Qd) : Prop where
  t : q.t < 256
  v : q.v < 4294967296
  p : q.p < 18446744073709551616
/-- the numbers fit -/
structure Msg.Ok (m : Msg) : Prop where
  ty : m.ty < 256
  tag : m.tag < 65536
  msize : m.msize < 4294967296
  fid : m.fid < 4294967296
  afid : m.afid < 4294967296
  newfid : m.newfid < 4294967296
  oldtag : m.oldtag < 65536
  qid : m.qid.Ok
  qids : ∀ q ∈ m.qids, q.Ok
  mode : m.mode < 256
  perm : m.perm < 4294967296
  iounit : m.iounit < 4294967296
  offset : m.offset < 18446744073709551616
  count : m.count < 4294967296
  stat : m.stat.Ok
def Qd.zero : Qd := ⟨0, 0, 0⟩
def Msg.zero : Msg := ⟨0, 0, 0, ByteArray.empty, 0, 0, 0, 0, ByteArray.empty, ByteArray.empty, ByteArray.empty, ByteArray.empty, [], Qd.zero, [], 0, 0, 0, 0, 0, ByteArray.empty, St.zero⟩
def Qd.cells (q : Qd) : List Value := [.int .u8 q.t, .int .u32 q.v, .int .u64 q.p]
/-- the cells of a message; vn, vq: its two lists -/
def Msg.cells (m : Msg) (vn vq : Value) : List Value :=
  [.int .u8 m.ty, .int .u16 m.tag, .int .u32 m.msize, .string m.version, .int .u32 m.fid, .int .u32 m.afid, .int .u32 m.newfid, .int .u16 m.oldtag,
   .string m.uname, .string m.aname, .string m.ename, .string m.name, vn, .int .u8 m.qid.t, .int .u32 m.qid.v, .int .u64 m.qid.p, vq, .int .u8 m.mode, .int .u32 m.perm, .int .u32 m.iounit,
   .int .u64 m.offset, .int .u32 m.count, .string m.data, .int .u16 m.stat.ty, .int .u32 m.stat.dev, .int .u8 m.stat.qt, .int .u32 m.stat.qv, .int .u64 m.stat.qp, .int .u32 m.stat.mo, .int .u32 m.stat.at_,
   .int .u32 m.stat.mt, .int .u64 m.stat.len, .string m.stat.n, .string m.stat.u, .string m.stat.g, .string m.stat.m]
inductive Fld where
  | msize | version | fid | afid | newfid | oldtag | uname | aname | ename | name | names | qid | qids | mode | perm | iounit | offset | count | data | stat
  deriving DecidableEq
/-- which fields a type has, in order -/
def fieldsOf : Nat → Option (List Fld)
  | 100 => some [.msize, .version] | 101 => some [.msize, .version]
  | 102 => some [.afid, .uname, .aname] | 103 => some [.qid]
  | 104 => some [.fid, .afid, .uname, .aname] | 105 => some [.qid]
  | 107 => some [.ename] | 108 => some [.oldtag] | 109 => some []
  | 110 => some [.fid, .newfid, .names] | 111 => some [.qids]
  | 112 => some [.fid, .mode] | 113 => some [.qid, .iounit]
  | 114 => some [.fid, .name, .perm, .mode] | 115 => some [.qid, .iounit]
  | 116 => some [.fid, .offset, .count] | 117 => some [.data]
  | 118 => some [.fid, .offset, .data] | 119 => some [.count]
  | 120 => some [.fid] | 121 => some [] | 122 => some [.fid] | 123 => some [] | 124 => some [.fid]
  | 125 => some [.stat] | 126 => some [.fid, .stat] | 127 => some []
  | _ => none
/-- a field made zero -/
def Fld.clear (m : Msg) : Fld → Msg
  | .msize => { m with msize := 0 } | .version => { m with version := ByteArray.empty } | .fid => { m with fid := 0 } | .afid => { m with afid := 0 } | .newfid => { m with newfid := 0 }
  | .oldtag => { m with oldtag := 0 } | .uname => { m with uname := ByteArray.empty } | .aname => { m with aname := ByteArray.empty } | .ename => { m with ename := ByteArray.empty } | .name => { m with name := ByteArray.empty }
  | .names => { m with names := [] } | .qid => { m with qid := Qd.zero } | .qids => { m with qids := [] } | .mode => { m with mode := 0 } | .perm => { m with perm := 0 } | .iounit => { m with iounit := 0 }
  | .offset => { m with offset := 0 } | .count => { m with count := 0 } | .data => { m with data := ByteArray.empty } | .stat => { m with stat := St.zero }
/-- what a pen has written, and whether it was too long -/
abbrev Wr := List UInt8 × Bool
def wrB (o : Wr) (s : List UInt8) : Wr := if 8192 < o.1.length + s.length then (o.1, true) else (o.1 ++ s, o.2)
def wrText (o : Wr) (s : ByteArray) : Wr := if 65535 < s.size then wrB (o.1, true) [] else wrB o (txt s)
def wrQid (o : Wr) (q : Qd) : Wr := wrB (wrB (wrB o (leBytes 1 q.t)) (leBytes 4 q.v)) (leBytes 8 q.p)
def wrStat (o : Wr) (s : St) : Wr := wrB (o.1, o.2 || decide ((encS s).2 ≠ 0) || decide (65535 < (encS s).1.size)) (leBytes 2 (encS s).1.size ++ (encS s).1.data.toList)
def wrData (o : Wr) (s : ByteArray) : Wr := wrB o (leBytes 4 s.size ++ s.data.toList)
def wrTexts (o : Wr) (l : List ByteArray) : Wr := l.foldl wrText o
def wrQids (o : Wr) (l : List Qd) : Wr := l.foldl wrQid o
def wrNames (o : Wr) (l : List ByteArray) : Wr :=
  let x := wrTexts (wrB o (leBytes 2 (min l.length 17))) (l.take 17)
  (x.1, x.2 || decide (16 < l.length))
def wrQidl (o : Wr) (l : List Qd) : Wr :=
  let x := wrQids (wrB o (leBytes 2 (min l.length 17))) (l.take 17)
  (x.1, x.2 || decide (16 < l.length))
/-- a field written by the pen -/
def Fld.wr (m : Msg) (o : Wr) : Fld → Wr
  | .msize => wrB o (leBytes 4 m.msize) | .version => wrText o m.version | .fid => wrB o (leBytes 4 m.fid) | .afid => wrB o (leBytes 4 m.afid) | .newfid => wrB o (leBytes 4 m.newfid)
  | .oldtag => wrB o (leBytes 2 m.oldtag) | .uname => wrText o m.uname | .aname => wrText o m.aname | .ename => wrText o m.ename | .name => wrText o m.name
  | .names => wrNames o m.names | .qid => wrQid o m.qid | .qids => wrQidl o m.qids | .mode => wrB o (leBytes 1 m.mode) | .perm => wrB o (leBytes 4 m.perm) | .iounit => wrB o (leBytes 4 m.iounit)
  | .offset => wrB o (leBytes 8 m.offset) | .count => wrB o (leBytes 4 m.count) | .data => wrData o m.data | .stat => wrStat o m.stat
/-- what a pen reads from, and whether a stat was none, or a list was too long -/
structure Re where
  m : Msg
  q : Rd
  wrong : Bool
  long : Bool
def rdQid (q : Rd) : Qd × Rd := (⟨(q.num 1).1, ((q.num 1).2.num 4).1, (((q.num 1).2.num 4).2.num 8).1⟩, (((q.num 1).2.num 4).2.num 8).2)
def rdData (q : Rd) : ByteArray × Rd := (q.num 4).2.bytes (q.num 4).1
def rdStatB (q : Rd) : ByteArray × Rd := (q.num 2).2.bytes (q.num 2).1
def rdTexts : Nat → Rd → List ByteArray → List ByteArray × Rd
  | 0, q, l => (l, q)
  | k + 1, q, l => if q.f ≠ 0 then (l, q) else rdTexts k q.text.2 (l ++ [q.text.1])
def rdQids : Nat → Rd → List Qd → List Qd × Rd
  | 0, q, l => (l, q)
  | k + 1, q, l => if q.f ≠ 0 then (l, q) else rdQids k (rdQid q).2 (l ++ [(rdQid q).1])
/-- a field read by the pen -/
def Fld.rd (s : Re) : Fld → Re
  | .msize => { s with m := { s.m with msize := (s.q.num 4).1 }, q := (s.q.num 4).2 }
  | .version => { s with m := { s.m with version := s.q.text.1 }, q := s.q.text.2 }
  | .fid => { s with m := { s.m with fid := (s.q.num 4).1 }, q := (s.q.num 4).2 }
  | .afid => { s with m := { s.m with afid := (s.q.num 4).1 }, q := (s.q.num 4).2 }
  | .newfid => { s with m := { s.m with newfid := (s.q.num 4).1 }, q := (s.q.num 4).2 }
  | .oldtag => { s with m := { s.m with oldtag := (s.q.num 2).1 }, q := (s.q.num 2).2 }
  | .uname => { s with m := { s.m with uname := s.q.text.1 }, q := s.q.text.2 }
  | .aname => { s with m := { s.m with aname := s.q.text.1 }, q := s.q.text.2 }
  | .ename => { s with m := { s.m with ename := s.q.text.1 }, q := s.q.text.2 }
  | .name => { s with m := { s.m with name := s.q.text.1 }, q := s.q.text.2 }
  | .names => { s with m := { s.m with names := (rdTexts (s.q.num 2).1 (s.q.num 2).2 []).1 }, q := (rdTexts (s.q.num 2).1 (s.q.num 2).2 []).2, long := s.long || decide (16 < (rdTexts (s.q.num 2).1 (s.q.num 2).2 []).1.length) }
  | .qid => { s with m := { s.m with qid := (rdQid s.q).1 }, q := (rdQid s.q).2 }
  | .qids => { s with m := { s.m with qids := (rdQids (s.q.num 2).1 (s.q.num 2).2 []).1 }, q := (rdQids (s.q.num 2).1 (s.q.num 2).2 []).2, long := s.long || decide (16 < (rdQids (s.q.num 2).1 (s.q.num 2).2 []).1.length) }
  | .mode => { s with m := { s.m with mode := (s.q.num 1).1 }, q := (s.q.num 1).2 }
  | .perm => { s with m := { s.m with perm := (s.q.num 4).1 }, q := (s.q.num 4).2 }
  | .iounit => { s with m := { s.m with iounit := (s.q.num 4).1 }, q := (s.q.num 4).2 }
  | .offset => { s with m := { s.m with offset := (s.q.num 8).1 }, q := (s.q.num 8).2 }
  | .count => { s with m := { s.m with count := (s.q.num 4).1 }, q := (s.q.num 4).2 }
  | .data => { s with m := { s.m with data := (rdData s.q).1 }, q := (rdData s.q).2 }
  | .stat => { s with m := { s.m with stat := (decS (rdStatB s.q).1).1 }, q := (rdStatB s.q).2, wrong := s.wrong || decide ((decS (rdStatB s.q).1).2 ≠ 0) }
end Go.Proofs.YtklpopmjpgdjnaaGreatDoor
