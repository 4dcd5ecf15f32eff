/- Plain facts on worlds: a change at one block alone, cells of a known block.
   What the frames of the statements share: behind a call that only makes memory a law's row holds.
   Package code, plain: what a reader does, and numbers as bytes.
   Directories, plain.
   Names, plain: a valid text has a bad letter where it has a bad byte.
   Short names for the steps of a drawn region that is walked under a hold.
   Package dir's Name.
   The tables of the library, as the rows list them (chapter 18).
   A stat, plain, and its bytes.
   A row of the call's own, said by its cells; append to it, whatever is appended (a slice, a text).
   Inside a fence that lets all by: a region that draws its order, by the plain words (go_region_held).
   A slice of stats.
   An argument that is a stat, or a row of stats.
   A tree of files, plain: what is asked of it, and what is done to it.
   A tree of files, plain: lists of files by paths and by places.
   A slice of records (several cells each).
   A struct of many cells read and written as a whole, as the walk meets it.
   A struct of many cells stored as a whole, as an operation. -/
import Derived.Test.YtkcnbbjmkkaolaaGreatDoorProg
import Derived.WalkKit
import Derived.WalkSpells
import Derived.WalkLawsBesides
import Derived.Lib.Hide
import Derived.Deep.QuietTactic
import Derived.BigQuiet
import Derived.Deep.RegionWith
import Derived.Lib.ConvBytes
import Derived.Laws.IdiomStrings
import Derived.Laws.OwnMore
import Derived.OwnWalk
import Derived.Lib.BufferWrite
import Derived.Test.YtkcnbbjmkkaolaaGreatDoorRows
import Derived.ProofKit
import Derived.OpenShut
import Derived.Deep.Slices
import Derived.Deep.Fields
import Derived.Laws.BitsAllLaws
import Derived.Laws.Strings
import Derived.Lib.ValidU
import Derived.Lib.MapLaws
import Derived.Lib.ValidLaws
import Derived.Lib.TrimUEq
import Derived.Shelf.GgClosure.StringsIndexFunc
import Derived.OrdersHeld
import Derived.Deep.RegionHeld
import Derived.Test.YtkcnbbjmkkaolaaGreatDoorShelf
import Derived.Test.YtkcnbbjmkkaolaaGreatDoorTie
import Derived.Test.YtkcnbbjmkkaolaaGreatDoorCards
import Derived.Lib.LaidU8T
import Derived.LaidMore
import Derived.Lay
import Derived.SevenTiedAt
import Derived.Stop.Joined
import Derived.Deep.AppendSrc
import Derived.Deep.RegionHeldLaw
import Derived.Sort.QuietIn
import Derived.SizedLaws
import Derived.RangeFuncBox
import Derived.Deep.MidRow
import Derived.Laws.CopyRow
set_option linter.unusedVariables false
set_option linter.unusedSimpArgs false
namespace Go.Proofs.YtkcnbbjmkkaolaaGreatDoor
open Go.RowKit

/-- of what was there, all blocks but those in S are as they were -/
structure Mod (S : Nat → Prop) (w w' : World) : Prop where
  os : w'.os = w.os
  tape : w'.tape = w.tape
  output : w'.output = w.output
  size : w.heap.size ≤ w'.heap.size
  block : ∀ k, k < w.heap.size → ¬ S k → w'.heap[k]? = w.heap[k]?

theorem Mod.refl (S : Nat → Prop) (w : World) : Mod S w w := ⟨rfl, rfl, rfl, Nat.le_refl _, fun _ _ _ => rfl⟩
theorem Mod.trans {S : Nat → Prop} {a b c : World} (h : Mod S a b) (k : Mod S b c) : Mod S a c :=
  ⟨k.os.trans h.os, k.tape.trans h.tape, k.output.trans h.output, Nat.le_trans h.size k.size, fun i hi hs => (k.block i (Nat.lt_of_lt_of_le hi h.size) hs).trans (h.block i hi hs)⟩
theorem Mod.mono {S T : Nat → Prop} {a b : World} (h : Mod S a b) (hs : ∀ k, k < a.heap.size → S k → T k) : Mod T a b :=
  ⟨h.os, h.tape, h.output, h.size, fun i hi ht => h.block i hi (fun x => ht (hs i hi x))⟩
/-- what a later step turns besides is new since a -/
theorem Mod.trans' {S T : Nat → Prop} {a b c : World} (h : Mod S a b) (k : Mod T b c) (ht : ∀ k, k < a.heap.size → T k → S k) : Mod S a c :=
  ⟨k.os.trans h.os, k.tape.trans h.tape, k.output.trans h.output, Nat.le_trans h.size k.size, fun i hi hs => (k.block i (Nat.lt_of_lt_of_le hi h.size) (fun x => hs (ht i hi x))).trans (h.block i hi hs)⟩
theorem Mod.drew {S : Nat → Prop} {a w : World} (h : Mod S a w) : Mod S a w.drew := ⟨h.os, h.tape, h.output, h.size, h.block⟩
theorem Mod.drewN {S : Nat → Prop} {a w : World} (h : Mod S a w) (n : Nat) : Mod S a (w.drewN n) := ⟨h.os, h.tape, h.output, h.size, h.block⟩
theorem Mod.ofDrew {S : Nat → Prop} {a w : World} (h : Mod S a.drew w) : Mod S a w := ⟨h.os, h.tape, h.output, h.size, h.block⟩
theorem Mod.alloc {S : Nat → Prop} {a w : World} (h : Mod S a w) (o : Obj) : Mod S a (w.alloc o) :=
  ⟨h.os, h.tape, h.output, by have := h.size; simp; omega, fun k hk hs => by rw [Below.heap_alloc _ _ _ (Nat.lt_of_lt_of_le hk h.size)]; exact h.block k hk hs⟩
theorem Mod.setCell {S : Nat → Prop} {a w : World} (h : Mod S a w) {p : Addr} (hp : S p.block ∨ a.heap.size ≤ p.block) (u : Value) : Mod S a (w.setCell p u) :=
  ⟨h.os, h.tape, h.output, by have := h.size; simpa [World.setCell] using this, fun k hk hs => by
    rw [Below.heap_setCell _ _ _ _ (by intro e; subst e; rcases hp with hp | hp; exact hs hp; omega)]; exact h.block k hk hs⟩
theorem Mod.set1 (w : World) (b i : Nat) (u : Value) : Mod (· = b) w (w.setCell ⟨b, i, none⟩ u) := (Mod.refl (· = b) w).setCell (p := ⟨b, i, none⟩) (Or.inl rfl) u
theorem Mod.below {w w' : World} (h : Mod (fun _ => False) w w') : Below w.heap.size w w' :=
  ⟨h.os, h.tape, h.output, h.size, fun k hk => h.block k hk (fun x => x)⟩
theorem Mod.of_below {S : Nat → Prop} {w w' : World} (h : Below w.heap.size w w') : Mod S w w' :=
  ⟨h.os, h.tape, h.output, h.size, fun k hk _ => h.block k hk⟩

/-- the cells of a block that is known whole -/
theorem cell_of {w : World} {b : Nat} {cs : Array Value} {e : TypeId} (h : w.heap[b]? = some (.cells cs e (0, 0))) (i : Nat) : w.cell? ⟨b, i, none⟩ = cs[i]? := by
  simp [World.cell?, h]
theorem free_of {w : World} {b : Nat} {cs : Array Value} {e : TypeId} (h : w.heap[b]? = some (.cells cs e (0, 0))) (i : Nat) : w.frozen? ⟨b, i, none⟩ = false := by
  simp [World.frozen?, h]
theorem heap_set {w : World} {b : Nat} {cs : Array Value} {e : TypeId} (h : w.heap[b]? = some (.cells cs e (0, 0))) (i : Nat) (v : Value) :
    (w.setCell ⟨b, i, none⟩ v).heap[b]? = some (.cells (cs.setIfInBounds i v) e (0, 0)) := by
  simp [World.setCell, Array.getElem?_modify, h]
theorem lt_of {w : World} {b : Nat} {o : Obj} (h : w.heap[b]? = some o) : b < w.heap.size := by
  rcases Nat.lt_or_ge b w.heap.size with g | g
  · exact g
  · simp [Array.getElem?_eq_none g] at h

/-- a slice of one-cell elements that reads as xs; its block meets P -/
def SlAt (w : World) (P : Nat → Prop) (v : Value) (xs : List Value) : Prop :=
  (xs = [] ∧ ∃ a c, v = .slice a 0 c) ∨ ∃ g off cap, v = .slice (some ⟨g, off, none⟩) xs.length cap ∧ P g ∧ g < w.heap.size ∧ xs.length ≤ cap ∧ ∀ j u, xs[j]? = some u → w.cell? ⟨g, off + j, none⟩ = some u
theorem SlAt.mod {w w' : World} {P S : Nat → Prop} {v : Value} {xs : List Value} (h : SlAt w P v xs) (hm : Mod S w w') (hp : ∀ g, P g → g < w.heap.size → ¬ S g) : SlAt w' P v xs := by
  rcases h with h | ⟨g, off, cap, h1, h2, h3, h4, h5⟩
  · exact .inl h
  · exact .inr ⟨g, off, cap, h1, h2, Nat.lt_of_lt_of_le h3 hm.size, h4, fun j u hj => (World.cell?_of_block (hm.block g h3 (hp g h2 h3))).trans (h5 j u hj)⟩
theorem SlAt.imp {w : World} {P Q : Nat → Prop} {v : Value} {xs : List Value} (h : SlAt w P v xs) (hp : ∀ g, P g → Q g) : SlAt w Q v xs := by
  rcases h with h | ⟨g, off, cap, h1, h2, h3⟩
  · exact .inl h
  · exact .inr ⟨g, off, cap, h1, hp g h2, h3⟩
theorem SlAt.of_owns {w : World} {base n : Nat} {e : TypeId} {v : Value} {xs : List Value} (h : w.ownsRow base e 1 v n xs) : SlAt w (base ≤ ·) v xs := by
  obtain ⟨h1, h2⟩ := h
  obtain rfl : xs.length = n := by omega
  rcases h2 with ⟨h2, h3⟩ | ⟨g, cap, cur, hv, hg, hh, hn, hm, hs, ht⟩
  · exact .inl ⟨List.eq_nil_of_length_eq_zero h3, _, _, h2⟩
  · refine .inr ⟨g, 0, cap, hv, hg, lt_of hh, hn, fun j u hj => ?_⟩
    rw [Nat.zero_add, cell_of hh, ← Array.getElem?_toList]
    rw [← ht, Nat.mul_one, List.getElem?_take] at hj
    split at hj
    · exact hj
    · cases hj
/-- .. said of one place after the other -/
theorem SlAt.form {w : World} {P : Nat → Prop} {v : Value} {xs : List Value} (h : SlAt w P v xs) : ∃ a cap, v = .slice a xs.length cap ∧ xs.length ≤ cap ∧
    ∀ j u, xs[j]? = some u → ∃ g off, a = some ⟨g, off, none⟩ ∧ P g ∧ g < w.heap.size ∧ w.cell? ⟨g, off + j, none⟩ = some u := by
  rcases h with ⟨rfl, a, c, rfl⟩ | ⟨g, off, cap, h1, h2, h3, h4, h5⟩
  · exact ⟨a, c, rfl, Nat.zero_le _, fun j u hj => by simp at hj⟩
  · exact ⟨_, cap, h1, h4, fun j u hj => ⟨g, off, rfl, h2, h3, h5 j u hj⟩⟩
theorem Mod.of_grown {w w' : World} {row : Option Nat} (h : w.grownBy w' row) : Mod (fun k => some k = row) w w' := ⟨h.os, h.tape, h.output, h.size, fun k hk hs => h.block k hk hs⟩
/-- a text out of a list of bytes -/
def bs (l : List UInt8) : ByteArray := ⟨l.toArray⟩
theorem bs_data (l : List UInt8) : (bs l).data.toList = l := rfl
theorem bs_size (l : List UInt8) : (bs l).size = l.length := rfl
/-- 'string(b)', b's cells being the bytes l -/
theorem conv_string {P : Program} (w : World) (src dst e : TypeId) (g off cap : Nat) (l : List UInt8) (n : Nat) (hn : n = l.length)
    (hs : P.underlying src = some (.slice e)) (he : P.underlying e = some (.int .u8)) (hd : P.underlying dst = some .string)
    (hc : ∀ j (hj : j < l.length), w.cell? ⟨g, off + j, none⟩ = some (.int .u8 (l[j].toNat : Int))) :
    (convert src dst (.slice (some ⟨g, off, none⟩) n cap)).run P w = .ok (.string (bs l)) w := by
  subst hn
  refine run_convert_bytes_back w src dst e ⟨g, off, none⟩ cap l hs he hd fun j hj => ?_
  have hplain : (⟨g, off, none⟩ : Addr).add j = ⟨g, off + j, none⟩ := by unfold Addr.add; split <;> simp_all
  rw [hplain]; exact hc j hj
/-- 'make([]T, n)' of one-cell elements -/
theorem make_row {P : Program} (t e : TypeId) (z : Value) (bytes : Nat) (n : Nat) (ht : P.underlying t = some (.slice e)) (hi : (P.info? e).map (fun i => (i.zero, i.size, i.bytes)) = some (some z, 1, bytes)) (hz : z.cells = #[z])
    (hb : bytes * n ≤ 281474976710656) (hm : n ≤ maxLen) : ∀ w : World, (Instr.makeSlice t (.int .i64 n) (.int .i64 n)).run P w = .ok (.slice (some ⟨w.heap.size, 0, none⟩) n n) (w.alloc (.cells (List.replicate n z).toArray e)) := by
  intro w
  obtain ⟨i0, hi0, h0, h1, h2⟩ := info_parts hi
  unfold maxLen at hm
  have h := run_make (P := P) w t e i0 z ht hi0 h0 .i64 .i64 (n : Int) (n : Int) (by omega) (Int.le_refl _) (by rw [h2, ← Int.natCast_mul]; omega) (by omega)
  rw [h1, hz, Nat.mul_one, Int.toNat_natCast] at h
  rw [h, ← toList_madeCells_one]
theorem new_at (w : World) (o : Obj) : (w.alloc o).heap[w.heap.size]? = some o := heap_alloc_new w o
theorem new_at' (w : World) (o : Obj) (k : Nat) (hk : k = w.heap.size) : (w.alloc o).heap[k]? = some o := by subst hk; exact new_at w o
theorem alloc_keep {w : World} {o : Obj} {k : Nat} {x : Obj} (h : w.heap[k]? = some x) : (w.alloc o).heap[k]? = some x := by
  rw [Below.heap_alloc _ _ _ (lt_of h)]; exact h
/-- bytes as cells -/
def bc (l : List UInt8) : List Value := l.map fun b => Value.int .u8 (b.toNat : Int)
theorem bc_get (l : List UInt8) (j : Nat) : (bc l)[j]? = l[j]?.map fun b => Value.int .u8 (b.toNat : Int) := by simp [bc]
/-- a row of bytes -/
def BRow (w : World) (g : Nat) (l : List UInt8) (e : TypeId) : Prop := w.heap[g]? = some (.cells (bc l).toArray e (0, 0))
theorem BRow.cell {w : World} {g : Nat} {l : List UInt8} {e : TypeId} (h : BRow w g l e) (j : Nat) (hj : j < l.length) : w.cell? ⟨g, j, none⟩ = some (.int .u8 (l[j].toNat : Int)) := by
  rw [cell_of h, ← Array.getElem?_toList, List.toList_toArray, bc_get, List.getElem?_eq_getElem hj]; rfl
theorem BRow.mod {w w' : World} {g : Nat} {l : List UInt8} {e : TypeId} {S : Nat → Prop} (h : BRow w g l e) (hm : Mod S w w') (hs : ¬ S g) : BRow w' g l e := (hm.block g (lt_of h) hs).trans h
end Go.Proofs.YtkcnbbjmkkaolaaGreatDoor
namespace Go.Proofs.YtkcnbbjmkkaolaaGreatDoor
open Go.ChangeShapes Go.WideShapes Go.ChangeAt Go.RowKit
theorem own_knob : ownKnob Tryz.prog.godebug = none := by kernel_rfl
theorem laid_out : laidOutB Tryz.prog = true := by kernel_rfl

theorem trodAll_below {H : Type} {enc : TypeId × Value → H} {P : Program} (hl : laidOutB P = true) {W W' : World} (hb : Below W.heap.size W W') :
    ∀ (ts : List TypeId) (vs : List Value) (ds : List (DataW H)) (ps : List MemPlace), (∀ t ∈ ts, P.readableRec t = true ∧ t < P.types.size) → DataW.TrodAll enc P W 0 (fun _ => true) true ts vs ds ps → (∀ x ∈ ps, x.block < W.heap.size) →
      DataW.TrodAll enc P W' 0 (fun b => decide (b < W.heap.size)) true ts vs ds ps
  | [], vs, ds, ps, _, h, _ => by
    obtain ⟨rfl, rfl, rfl⟩ := trodAll_nil h
    exact trodAll_mk0
  | t :: ts, vs, ds, ps, ht, h, hlt => by
    obtain ⟨v0, vs0, d0, ds0, p0, q0, rfl, rfl, rfl, h0, r0⟩ := trodAll_cons h
    exact trodAll_cons_mk (Below.trod hl (ht t (List.mem_cons_self ..)).1 (ht t (List.mem_cons_self ..)).2 h0 hb (fun x hx => hlt x (List.mem_append_left _ hx)))
      (trodAll_below hl hb ts vs0 ds0 q0 (fun t ht' => ht t (List.mem_cons_of_mem _ ht')) r0 (fun x hx => hlt x (List.mem_append_right _ hx)))

/-- A LAW's ROW, behind a call that answers true and turns nothing that was there. -/
theorem law_post {H : Type} {enc : TypeId × Value → H} {f : Func} {s : ChangeSpec} {W W' : World} {args : Array Value} {ds gs : List (DataW H)} {before : List MemPlace}
    (hW : DataW.Whole enc Tryz.prog f.params.toList s.vars false W args.toList ds gs before) (hm : Mod (fun _ => False) W W')
    (hts0 : (f.params.toList.all fun t => Tryz.prog.readableRec t && decide (t < Tryz.prog.types.size)) = true) (hsv : s.vars = []) (hret : f.resultTypes = #[4])
    (hres : (s.fn H ds).results = [.lit (.bool true)]) (hargs : (s.fn H ds).args = ds) (hvs : (s.fn H ds).vars = []) :
    s.post enc Tryz.prog f false true false false W args (.bool true) W' := by
  have hlt : ∀ p ∈ before, p.block < W.heap.size := fun p hp => hW.lt p hp
  have hts : ∀ t ∈ f.params.toList, Tryz.prog.readableRec t = true ∧ t < Tryz.prog.types.size := fun t ht => by
    have := List.all_eq_true.1 hts0 t ht
    rw [Bool.and_eq_true] at this
    exact ⟨this.1, of_decide_eq_true this.2⟩
  obtain ⟨p, q, hA, hV, hpq, hfz, hnd⟩ := hW
  have hV0 := hV
  rw [hsv] at hV0
  obtain ⟨hg, hq⟩ := trodVars_none hV0
  have hds : ds ++ gs = ds := by rw [hg, List.append_nil]
  refine ⟨ds, gs, before, [], p, q, ⟨p, q, hA, hV, hpq, hfz, hnd⟩, ?_, ?_, ?_, hm.below.frame _, fun h => by cases h⟩
  all_goals rw [hds]
  · rw [hret, hres]
    exact trodAll_cons_mk (shut_bool Tryz.underlying4 true) trodAll_mk0
  · rw [hargs]
    exact trodAll_below laid_out hm.below _ _ _ _ hts hA (fun x hx => hlt x (by rw [hpq]; exact List.mem_append_left _ hx))
  · rw [hsv, hvs, hq]
    exact rfl
theorem addr_form {w : World} {a : Addr} {v : Value} (h : w.cell? a = some v) : a = ⟨a.block, a.off, none⟩ := by
  obtain ⟨b, o, sp⟩ := a
  cases sp with
  | none => rfl
  | some _ =>
    exfalso
    unfold World.cell? at h
    split at h
    · simp at h
    · cases h

theorem add_plain (g off x : Nat) : (⟨g, off, none⟩ : Addr).add x = ⟨g, off + x, none⟩ := by
  unfold Addr.add
  split
  · rename_i h; rw [h]; rfl
  · rfl
end Go.Proofs.YtkcnbbjmkkaolaaGreatDoor
namespace Go.Proofs.YtkcnbbjmkkaolaaGreatDoor

/-- a reader: its bytes, its place, its fault -/
structure Rd where
  s : ByteArray
  at_ : Nat
  f : Int

def Rd.bytes (r : Rd) (n : Int) : ByteArray × Rd :=
  if r.f ≠ 0 then (ByteArray.empty, r)
  else if n < 0 then (ByteArray.empty, { r with f := 2 })
  else if r.s.size < r.at_ + n.toNat then (ByteArray.empty, { r with f := 50 })
  else (r.s.extract r.at_ (r.at_ + n.toNat), { r with at_ := r.at_ + n.toNat, f := 0 })

/-- a number, the lowest byte first -/
def leNat : List UInt8 → Nat
  | [] => 0
  | c :: l => c.toNat + 256 * leNat l

def Rd.num (r : Rd) (k : Nat) : Nat × Rd := (leNat (r.bytes k).1.data.toList, (r.bytes k).2)

/-- so many bytes of a number, the lowest first -/
def leBytes : Nat → Nat → List UInt8
  | 0, _ => []
  | n + 1, x => UInt8.ofNat x :: leBytes n (x / 256)
theorem take_snoc (s : ByteArray) (k : Nat) (h : k < s.size) : s.data.toList.take (k + 1) = s.data.toList.take k ++ [s.data[k]] := by
  rw [List.take_succ_eq_append_getElem (by simpa using h)]; rfl
theorem take_all (t : ByteArray) : t.data.toList.take t.size = t.data.toList := List.take_of_length_le (by rw [Array.length_toList]; exact Nat.le_refl _)

/-- a deferred 'keep': behind a fault the place is put back -/
def Rd.keep (r : Rd) (a : Nat) : Rd := if r.f ≠ 0 then { r with at_ := a } else r

/-- a text: a number of two bytes, then so many; a fault puts the place back -/
def Rd.text (r : Rd) : ByteArray × Rd := (((r.num 2).2.bytes (r.num 2).1).1, ((r.num 2).2.bytes (r.num 2).1).2.keep r.at_)

/-- so many texts, one behind the other, till a fault -/
def Rd.textsGo : Nat → Rd → List ByteArray → Option (List ByteArray) × Rd
  | 0, r, l => (some l, r)
  | k + 1, r, l => if r.text.2.f ≠ 0 then (none, r.text.2) else Rd.textsGo k r.text.2 (l ++ [r.text.1])

/-- a list's number is at most so many -/
def Rd.cap (r : Rd) (n : Nat) (most : Int) : Rd := if r.f = 0 ∧ max most 0 < (n : Int) then { r with f := 4 } else r

def Rd.texts (r : Rd) (most : Int) : List ByteArray × Rd :=
  let g := Rd.textsGo (r.num 2).1 ((r.num 2).2.cap (r.num 2).1 most) []
  (g.1.getD [], g.2.keep r.at_)

end Go.Proofs.YtkcnbbjmkkaolaaGreatDoor
namespace Go.Proofs.YtkcnbbjmkkaolaaGreatDoor

/-- a byte that no name has -/
def badB (b : UInt8) : Bool := decide (b.toNat < 32) || (decide (b.toNat = 127) || decide (b.toNat = 47))
def nameOk (s : ByteArray) : Bool := decide (0 < s.size ∧ s.size ≤ 55 ∧ s.data.toList ≠ [46] ∧ s.data.toList ≠ [46, 46]) && (Lib.validD s.data.toList && !(s.data.toList.any badB))
def zeros (n : Nat) : List UInt8 := List.replicate n 0
def freeB : ByteArray := bs (zeros 64)
def slotL (p : Nat) (n : ByteArray) : List UInt8 := leBytes 8 p ++ (leBytes 1 n.size ++ (n.data.toList ++ zeros (55 - n.size)))
def slotB (p : Nat) (n : ByteArray) : ByteArray := bs (slotL p n)
structure Ent where
  slot : Nat
  path : Nat
  name : ByteArray
def Ent.cells (e : Ent) : List Value := [.int .i64 e.slot, .int .u64 e.path, .string e.name]
def Ent.v (e : Ent) : Value := .agg e.cells.toArray
/-- what stands in a slot -/
def readP (x : ByteArray) : Nat := leNat (x.extract 0 8).data.toList
def readL (x : ByteArray) : Nat := leNat (x.extract 8 9).data.toList
def readN (x : ByteArray) : ByteArray := x.extract 9 (9 + min (readL x) 55)
def readOk (x : ByteArray) : Bool := decide (readP x ≠ 0) && (nameOk (readN x) && decide (x = slotB (readP x) (readN x)))
def slotAt (s : ByteArray) (i : Nat) : ByteArray := s.extract (i * 64) (i * 64 + 64)
/-- all of them, one behind the other -/
def slotsL (s : ByteArray) : List ByteArray := (List.range (s.size / 64)).map (slotAt s)
def hasN (l : List Ent) (n : ByteArray) : Bool := l.any fun e => decide (e.name = n)
def hasP (l : List Ent) (p : Nat) : Bool := l.any fun e => decide (e.path = p)
/-- one slot more -/
def stepE (x : ByteArray) (i : Nat) (l : List Ent) : Option (List Ent) :=
  if x = freeB then some l
  else if readOk x = true ∧ hasN l (readN x) = false ∧ hasP l (readP x) = false then some (l ++ [⟨i, readP x, readN x⟩]) else none
def goE : List ByteArray → Nat → List Ent → Option (List Ent)
  | [], _, l => some l
  | x :: r, i, l => match stepE x i l with
    | none => none
    | some l => goE r (i + 1) l
def sizeOk (s : ByteArray) : Bool := decide (s.size % 64 = 0 ∧ s.size ≤ 7168)
def listS (s : ByteArray) : Option (List Ent) := if sizeOk s then goE (slotsL s) 0 [] else none
def findE (l : List Ent) (n : ByteArray) : Option Ent := l.find? fun e => decide (e.name = n)
def findS (s : ByteArray) (n : ByteArray) : Int × Nat := match findE ((listS s).getD []) n with
  | some e => (e.slot, e.path)
  | none => (-1, 0)
def withS (s : ByteArray) (at_ : Nat) (x : ByteArray) : ByteArray := if s.size ≤ at_ * 64 then s ++ x else s.extract 0 (at_ * 64) ++ x ++ s.extract (at_ * 64 + 64) s.size
theorem slotsL_length (s : ByteArray) : (slotsL s).length = s.size / 64 := by rw [slotsL, List.length_map, List.length_range]
theorem slotsL_get {s : ByteArray} {i : Nat} (h : i < (slotsL s).length) : (slotsL s)[i] = slotAt s i := by
  simp only [slotsL, List.getElem_map, List.getElem_range]
end Go.Proofs.YtkcnbbjmkkaolaaGreatDoor
namespace Go.Proofs.YtkcnbbjmkkaolaaGreatDoor
open Go.Lib

def badR (r : Nat) : Bool := decide (r < 32) || (decide (r = 127) || decide (r = 47))
theorem badB_high (z : Int) (h : 128 ≤ z) (h2 : z ≤ 255) : badB z.toNat.toUInt8 = false := by
  unfold badB
  have e : z.toNat.toUInt8.toNat = z.toNat := by
    show z.toNat % 256 = z.toNat
    omega
  rw [e]
  simp
  omega
theorem enc_bad (r : Nat) : (encodeRune (r : Int)).any badB = badR r := by
  unfold encodeRune
  by_cases h1 : r ≤ 127
  · rw [encodeRuneZ_one (by omega) (by omega)]
    simp only [List.map_cons, List.map_nil, List.any_cons, List.any_nil, Bool.or_false]
    unfold badB badR
    have e : ((r : Int).toNat.toUInt8).toNat = r := by show (r : Int).toNat % 256 = r; omega
    rw [e]
  · have hb : badR r = false := by unfold badR; simp; omega
    rw [hb]
    unfold encodeRuneZ
    rw [if_neg (by omega)]
    repeat' split
    all_goals simp only [List.map_cons, List.map_nil, List.any_cons, List.any_nil, Bool.or_false]
    all_goals (repeat rw [badB_high _ (by omega) (by omega)])
    all_goals first | rfl | decide
theorem idx_bad (s : ByteArray) : ∀ f pos, validD (s.data.toList.drop pos) = true → s.size ≤ pos + f → decide (0 ≤ idxFuncFrom badR true s f pos) = (s.data.toList.drop pos).any badB := by
  have hsz : s.data.toList.length = s.size := Array.length_toList
  intro f
  induction f with
  | zero =>
    intro pos _ h
    rw [List.drop_eq_nil_of_le (by omega)]
    rfl
  | succ f ih =>
    intro pos hv h
    by_cases hp : pos < s.size
    · have hne : s.data.toList.drop pos ≠ [] := fun e => by
        have := congrArg List.length e
        rw [List.length_drop] at this
        simp at this
        omega
      rw [validD_step _ hne] at hv
      split at hv
      · cases hv
      rename_i hnv
      have he := encode_decode _ hne hnv
      have hw := decodeL_width (s.data.toList.drop pos)
      rw [List.drop_drop] at hv
      have hd := decodeL_drop s pos
      rw [hd] at he hw hv
      rw [idxFuncFrom, if_pos hp]
      have hsplit : (s.data.toList.drop pos).any badB = (badR (Utf8.decode s pos).1 || (s.data.toList.drop (pos + (Utf8.decode s pos).2)).any badB) := by
        rw [← enc_bad, he, ← List.drop_drop, ← List.any_append, List.take_append_drop]
      rw [hsplit]
      cases hb : badR (Utf8.decode s pos).1
      · rw [if_neg (by decide), Bool.false_or]
        exact ih _ hv (by omega)
      · rw [if_pos rfl, Bool.true_or]
        exact decide_eq_true (by omega)
    · rw [idxFuncFrom_end _ _ _ _ _ hp, List.drop_eq_nil_of_le (by omega)]
      rfl
/-- strings.ContainsFunc at a valid text -/
theorem idx_valid (s : ByteArray) (h : validD s.data.toList = true) : decide (0 ≤ idxFunc badR true s) = s.data.toList.any badB := by
  have := idx_bad s s.size 0 (by rw [List.drop_zero]; exact h) (by omega)
  rw [List.drop_zero] at this
  exact this
end Go.Proofs.YtkcnbbjmkkaolaaGreatDoor
namespace Go.Proofs.YtkcnbbjmkkaolaaGreatDoor
open Go.RowKit

section
variable {P : Program} {ops : Array Oper} {Q : Exit → Act → World → Prop} {md : Region.Mode} {S : World → Prop} {oi : Oper} {v : Value} {fuel : Nat} {listed : Array Bool} {a : Act} {w : World}
/-- number i may come up, and is free -/
def upB (md : Region.Mode) (ops : Array Oper) (listed : Array Bool) (i : Nat) : Bool := Region.noSelect ops && (Region.free md ops listed i && (Region.ready md ops listed).contains i)
theorem hTy (i : Nat) (hi : ops[i]? = some oi) (hb : upB md ops listed i = true) (hQ : ∀ c a w, Q (.panic c) (a.put oi.dst v) w → Q (.panic c) a w) (hS : S w) (hy : YieldsIf P ops S oi v a)
    (h : wpAnyH P md ops Q S fuel (listed.setIfInBounds i true) (a.put oi.dst v) w) : wpAnyH P md ops Q S (fuel + 1) listed a w := by
  unfold upB at hb
  simp only [Bool.and_eq_true] at hb
  exact wpAnyH_take hi hb.1 hb.2.1 hb.2.2 hQ hy hS h
theorem hT (i : Nat) (hi : ops[i]? = some oi) (hy : ∀ w, S w → (execOp a.eval oi).run P w = .ok (.value v) w) (h : wpAnyH P md ops Q S fuel (listed.setIfInBounds i true) (a.put oi.dst v) w)
    (hb : upB md ops listed i = true := by kernel_rfl) (hw : Region.wanted oi (yielded ops a.tmps) = true := by rfl) (hQ : ∀ c a w, Q (.panic c) (a.put oi.dst v) w → Q (.panic c) a w := by exact fun _ _ _ h => h) (hS : S w := by assumption) :
    wpAnyH P md ops Q S (fuel + 1) listed a w := hTy i hi hb hQ hS (.inl ⟨hw, hy⟩) h
theorem hSk (i : Nat) (hi : ops[i]? = some oi) (h : wpAnyH P md ops Q S fuel (listed.setIfInBounds i true) (a.put oi.dst undef) w)
    (hb : upB md ops listed i = true := by kernel_rfl) (hw : Region.wanted oi (yielded ops a.tmps) = false := by rfl) (hQ : ∀ c a w, Q (.panic c) (a.put oi.dst undef) w → Q (.panic c) a w := by exact fun _ _ _ h => h) (hS : S w := by assumption) :
    wpAnyH P md ops Q S (fuel + 1) listed a w := hTy i hi hb hQ hS (.inr ⟨hw, rfl⟩) h
/-- only number i may come up -/
theorem hR1 (i : Nat) (hi : ops[i]? = some oi) (h : ∀ K' : Act → World → Prop, Shut (∀ a w, S w → (S w → wpAnyH P md ops Q S fuel (listed.setIfInBounds i true) a w) → K' a w) → if Region.wanted oi (yielded ops a.tmps) = true then Oper.wp P oi a w K' Q else K' (a.put oi.dst undef) w)
    (hb : Region.ready md ops listed = [i] := by kernel_rfl) : wpAnyH P md ops Q S (fuel + 1) listed a w := wpAnyH_ready hb (by simp) (.cons hi h .nil)
end
section
variable {α : Type}
theorem gA {xs : List α} {i : Nat} (h : i < xs.toArray.size) : xs.toArray[i] = xs[i]'(by simpa using h) := List.getElem_toArray h
theorem gB {a : α} {l : List α} {i : Nat} (h : i + 1 < (a :: l).length) : (a :: l)[i + 1] = l[i]'(Nat.lt_of_succ_lt_succ h) := List.getElem_cons_succ a l i h
theorem gC {a : α} {l : List α} (h : 0 < (a :: l).length) : (a :: l)[0] = a := List.getElem_cons_zero a l h
theorem sA {l : List α} {i : Nat} {a : α} : l.toArray.setIfInBounds i a = (l.set i a).toArray := List.setIfInBounds_toArray ..
theorem sB {a b : α} {l : List α} : (a :: l).set 0 b = b :: l := rfl
theorem sC {a b : α} {l : List α} {n : Nat} : (a :: l).set (n + 1) b = a :: l.set n b := rfl
end
end Go.Proofs.YtkcnbbjmkkaolaaGreatDoor
namespace Go.Proofs.YtkcnbbjmkkaolaaGreatDoor
open Go.RowKit Go.Shelf

/-- the library's tables lie there -/
def Tabs (w : World) : Prop := Lib.Utf8Tabs (Tryz.lays196_ren.g 3) (Tryz.lays196_ren.g 4) w
theorem Tabs.mod {w w' : World} (h : Tabs w) (hm : Mod (fun _ => False) w w') : Tabs w' := Utf8Tabs_below h hm.below
theorem valid_any (s : ByteArray) (w : World) (hs : s.size ≤ 9223372036854775807) (hT : Tabs w) :
    Calls Tryz.prog 94 #[.string s] w fun e w' => e = .returned (.bool (Lib.validD s.data.toList)) ∧ Mod (fun _ => False) w w' :=
  (Tryz.utf8_ValidString s w hs hT).mono fun _ _ h => ⟨h.1, Mod.of_below h.2⟩
set_option maxHeartbeats 400000 in
theorem bad_any (x : Nat) (w : World) : Calls Tryz.prog 95 #[.int .i32 x] w fun e w' => e = .returned (.bool (badR x)) ∧ w' = w := by
  have HV : Hid (badR x = (decide ((x : Int) < 32) || (((x : Int) == 127) || ((x : Int) == 47)))) := by
    show _ = _
    unfold badR
    congr 1
    · simp; omega
    · congr 1 <;> (rw [Bool.eq_iff_iff]; simp; omega)
  by_cases h1 : (x : Int) < 32
  · have t1 : decide ((x : Int) < 32) = true := by simp; omega
    go_enter Tryz.func95, Tryz.ntmps95
    go_wp2
    go_ret
    exact ⟨by rw [HV.out, t1]; rfl, rfl⟩
  have t1 : decide ((x : Int) < 32) = false := by simp; omega
  by_cases h2 : (x : Int) = 127
  · have t2 : ((x : Int) == 127) = true := by simp; omega
    go_enter Tryz.func95, Tryz.ntmps95
    go_wp2
    go_ret
    exact ⟨by rw [HV.out, t1, t2]; rfl, rfl⟩
  have t2 : ((x : Int) == 127) = false := by simp; omega
  go_enter Tryz.func95, Tryz.ntmps95
  go_wp2
  go_ret
  exact ⟨by rw [HV.out, t1, t2]; rfl, rfl⟩
theorem contains_any (s : ByteArray) (w : World) : Calls Tryz.prog 96 #[.string s, .func (.func 95) #[] #[]] w fun e w' => e = .returned (.bool (decide (0 ≤ Lib.idxFunc badR true s))) ∧ Mod (fun _ => False) w w' :=
  (Tryz.strings_ContainsFunc_runes 95 #[] (enters_of Tryz.func95 (by kernel_rfl) rfl) badR s w (fun W x _ _ => (bad_any x W).mono fun _ _ h => ⟨h.1, 0, h.2⟩)).mono fun _ _ h => ⟨h.1, Mod.of_below h.2⟩
theorem toList_beq (a b : ByteArray) : (a.toList == b.toList) = decide (a.data.toList = b.data.toList) := by
  rw [ByteArray.toList_eq, ByteArray.toList_eq]
  rw [Bool.eq_iff_iff, beq_iff_eq, decide_eq_true_eq]
theorem empty_beq (s : ByteArray) : s.toList.isEmpty = decide (s.size = 0) := by
  rw [ByteArray.toList_eq, Bool.eq_iff_iff, List.isEmpty_iff, decide_eq_true_eq, ← List.length_eq_zero_iff, Array.length_toList]
  exact Iff.rfl


set_option maxHeartbeats 1000000 in
set_option maxRecDepth 100000 in
theorem name_any (s : ByteArray) (w : World) (hs : s.size ≤ 9223372036854775807) (hT : Tabs w) :
    Calls Tryz.prog 35 #[.string s] w fun e w' => e = .returned (.int .i64 (if nameOk s = true then 0 else 183)) ∧ Mod (fun _ => False) w w' := by
  have hV := fun U => valid_any s U hs
  have hC := fun U => contains_any s U
  have hI := @idx_valid s
  have hz : s.data.toList.length = s.size := Array.length_toList
  have hF : Hid ((s.size = 0 ∨ 55 < s.size ∨ s.data.toList = [46] ∨ s.data.toList = [46, 46] ∨ Lib.validD s.data.toList = false ∨ s.data.toList.any badB = true) → (if nameOk s = true then (0 : Int) else 183) = 183) := by
    intro h
    rw [if_neg]
    intro hn
    unfold nameOk at hn
    simp only [Bool.and_eq_true, decide_eq_true_eq] at hn
    obtain ⟨⟨n1, n2, n3, n4⟩, n5, n6⟩ := hn
    rcases h with h | h | h | h | h | h
    · omega
    · omega
    · exact n3 h
    · exact n4 h
    · rw [h] at n5; cases n5
    · rw [h] at n6; cases n6
  have hG : Hid (¬(s.size = 0 ∨ 55 < s.size ∨ s.data.toList = [46] ∨ s.data.toList = [46, 46] ∨ Lib.validD s.data.toList = false ∨ s.data.toList.any badB = true) → (if nameOk s = true then (0 : Int) else 183) = 0) := by
    intro h
    simp only [not_or] at h
    obtain ⟨h1, h2, h3, h4, h5, h6⟩ := h
    rw [if_pos]
    unfold nameOk
    simp only [Bool.and_eq_true, decide_eq_true_eq]
    exact ⟨⟨by omega, by omega, h3, h4⟩, by simpa using h5, by simpa using h6⟩
  generalize (if nameOk s = true then (0 : Int) else 183) = R at *
  clear hz
  have e0 := empty_beq s
  have e1 := toList_beq s (bs [46])
  have e2 := toList_beq s (bs [46, 46])
  rw [bs_data, show (bs [46]).toList = [46] from by rw [ByteArray.toList_eq]; rfl] at e1
  rw [bs_data, show (bs [46, 46]).toList = [46, 46] from by rw [ByteArray.toList_eq]; rfl] at e2
  generalize Lib.validD s.data.toList = vd at *
  by_cases c0 : s.size = 0
  · rw [decide_eq_true c0] at e0
    clear hV hC hI hG e1 e2
    go_enter Tryz.func35, Tryz.ntmps35
    go_wp2
    go_ret
    exact ⟨by rw [hF.out (Or.inl c0)]; rfl, Mod.refl _ _⟩
  rw [decide_eq_false c0] at e0
  by_cases c1 : 55 < s.size
  · have t1 : decide ((55 : Int) < (s.size : Int)) = true := by simp; omega
    clear hV hC hI hG e1 e2
    go_enter Tryz.func35, Tryz.ntmps35
    go_wp2
    go_ret
    exact ⟨by rw [hF.out (Or.inr (Or.inl c1))]; rfl, Mod.refl _ _⟩
  have t1 : decide ((55 : Int) < (s.size : Int)) = false := by simp; omega
  by_cases c2 : s.data.toList = [46]
  · rw [decide_eq_true c2] at e1
    clear hV hC hI hG e2
    go_enter Tryz.func35, Tryz.ntmps35
    go_wp2
    go_ret
    exact ⟨by rw [hF.out (Or.inr (Or.inr (Or.inl c2)))]; rfl, Mod.refl _ _⟩
  rw [decide_eq_false c2] at e1
  by_cases c3 : s.data.toList = [46, 46]
  · rw [decide_eq_true c3] at e2
    clear hV hC hI hG
    go_enter Tryz.func35, Tryz.ntmps35
    go_wp2
    go_ret
    exact ⟨by rw [hF.out (Or.inr (Or.inr (Or.inr (Or.inl c3))))]; rfl, Mod.refl _ _⟩
  rw [decide_eq_false c3] at e2
  cases vd with
  | false =>
    clear hC hI hG
    go_enter Tryz.func35, Tryz.ntmps35
    go_wp2_with fail
    refine (hV _ hT).mono ?_
    rintro e w1 ⟨rfl, m1⟩
    go_wp2
    go_ret
    exact ⟨by rw [hF.out (by simp)]; rfl, m1⟩
  | true =>
    have hI := hI rfl
    rw [hI] at hC
    clear hI
    cases hb : s.data.toList.any badB with
    | true =>
      rw [hb] at hC
      clear hG
      go_enter Tryz.func35, Tryz.ntmps35
      go_wp2_with fail
      refine (hV _ hT).mono ?_
      rintro e w1 ⟨rfl, m1⟩
      go_wp2_with fail
      refine (hC _).mono ?_
      rintro e w2 ⟨rfl, m2⟩
      go_wp2
      go_ret
      exact ⟨by rw [hF.out (Or.inr (Or.inr (Or.inr (Or.inr (Or.inr hb)))))]; rfl, m1.trans m2⟩
    | false =>
      rw [hb] at hC
      clear hF
      have hG := hG.out (by rw [hb]; simp only [Bool.false_eq_true, or_false]; intro h; rcases h with h | h | h | h | h <;> first | exact c0 h | exact c1 h | exact c2 h | exact c3 h | cases h)
      subst hG
      clear c0 c1 c2 c3 hb
      go_enter Tryz.func35, Tryz.ntmps35
      go_wp2_with fail
      refine (hV _ hT).mono ?_
      rintro e w1 ⟨rfl, m1⟩
      go_wp2_with fail
      refine (hC _).mono ?_
      rintro e w2 ⟨rfl, m2⟩
      go_wp2
      go_ret
      exact ⟨rfl, m1.trans m2⟩
end Go.Proofs.YtkcnbbjmkkaolaaGreatDoor
namespace Go.Proofs.YtkcnbbjmkkaolaaGreatDoor
open Go.RowKit Go.Shelf

theorem first_data : Rows.laid_unicode_utf8_first = Lib.firstData := by kernel_rfl
theorem accept_data : (Rows.laid_unicode_utf8_acceptRanges : DataW Unit) = Lib.acceptData := by kernel_rfl
theorem tabs_of_laid (W : World) (h : laidMetH Tryz.prog [("unicode/utf8.acceptRanges", Rows.laid_unicode_utf8_acceptRanges), ("unicode/utf8.first", Rows.laid_unicode_utf8_first)] W) : Tabs W := by
  rw [MakeChecks.laidMetH_plain _ _ _ (by kernel_rfl)] at h
  have h3 := Lib.laidMet.reads h (n := "unicode/utf8.first") (d := Rows.laid_unicode_utf8_first) (.tail _ (.head _))
  have h4 := Lib.laidMet.reads h (n := "unicode/utf8.acceptRanges") (d := Rows.laid_unicode_utf8_acceptRanges) (.head _)
  rw [first_data] at h3
  rw [accept_data] at h4
  exact utf8Tabs_of_readsT (ρ := Tryz.lays196_ren) (U8Types.of196 Tryz.lays196) ⟨by kernel_rfl, by kernel_rfl, by kernel_rfl, by kernel_rfl, by kernel_rfl, by kernel_rfl, by kernel_rfl⟩ h3 h4
end Go.Proofs.YtkcnbbjmkkaolaaGreatDoor
namespace Go.Proofs.YtkcnbbjmkkaolaaGreatDoor

structure St where
  ty : Nat
  dev : Nat
  qt : Nat
  qv : Nat
  qp : Nat
  mo : Nat
  at_ : Nat
  mt : Nat
  len : Nat
  n : ByteArray
  u : ByteArray
  g : ByteArray
  m : ByteArray
structure St.Ok (s : St) : Prop where
  ty : s.ty < 65536
  dev : s.dev < 4294967296
  qt : s.qt < 256
  qv : s.qv < 4294967296
  qp : s.qp < 18446744073709551616
  mo : s.mo < 4294967296
  at_ : s.at_ < 4294967296
  mt : s.mt < 4294967296
  len : s.len < 18446744073709551616
def St.cells (s : St) : List Value := [.int .u16 s.ty, .int .u32 s.dev, .int .u8 s.qt, .int .u32 s.qv, .int .u64 s.qp, .int .u32 s.mo, .int .u32 s.at_, .int .u32 s.mt, .int .u64 s.len, .string s.n, .string s.u, .string s.g, .string s.m]
def St.v (s : St) : Value := .agg s.cells.toArray
def qidL (t v p : Nat) : List UInt8 := leBytes 1 t ++ leBytes 4 v ++ leBytes 8 p
def txt (b : ByteArray) : List UInt8 := leBytes 2 b.size ++ b.data.toList
def St.nums (s : St) : List UInt8 := leBytes 2 s.ty ++ leBytes 4 s.dev ++ qidL s.qt s.qv s.qp ++ leBytes 4 s.mo ++ leBytes 4 s.at_ ++ leBytes 4 s.mt ++ leBytes 8 s.len
def St.body (s : St) : List UInt8 := s.nums ++ txt s.n ++ txt s.u ++ txt s.g ++ txt s.m
end Go.Proofs.YtkcnbbjmkkaolaaGreatDoor
namespace Go.Proofs.YtkcnbbjmkkaolaaGreatDoor
open Go.RowKit

theorem mod_setCells {S : Nat → Prop} {w0 : World} (b : Nat) : ∀ (vs : List Value) (o : Nat) (w : World), Mod S w0 w → (S b ∨ w0.heap.size ≤ b) → Mod S w0 (w.setCells b o vs)
  | [], _, _, h, _ => h
  | v :: r, o, _, h, hb => mod_setCells b r (o + 1) _ (h.setCell (p := ⟨b, o, none⟩) hb v) hb

/-- v owns n elements (size cells each), xs, at the head of a row from block base on, all of whose cells may be written -/
def OwnA (w : World) (base size : Nat) (v : Value) (n : Nat) (xs : List Value) : Prop :=
  xs.length = n * size ∧ ((v = .slice none 0 0 ∧ n = 0) ∨ ∃ g cap, v = .slice (some ⟨g, 0, none⟩) n cap ∧ base ≤ g ∧ g < w.heap.size ∧ n ≤ cap ∧
    (∀ j, j < cap * size → (w.cell? ⟨g, j, none⟩).isSome = true) ∧ (∀ j, j < cap * size → w.frozen? ⟨g, j, none⟩ = false) ∧ (∀ j u, xs[j]? = some u → w.cell? ⟨g, j, none⟩ = some u))

theorem OwnA.nil (w : World) (base size : Nat) : OwnA w base size (.slice none 0 0) 0 [] := ⟨by simp, .inl ⟨rfl, rfl⟩⟩
theorem OwnA.mono {w : World} {base base' size n : Nat} {v : Value} {xs : List Value} (h : OwnA w base size v n xs) (hb : base' ≤ base) : OwnA w base' size v n xs := by
  refine ⟨h.1, ?_⟩
  rcases h.2 with hn | ⟨g, cap, h1, h2, h3⟩
  · exact .inl hn
  · exact .inr ⟨g, cap, h1, Nat.le_trans hb h2, h3⟩
theorem OwnA.mod {w w' : World} {base size n : Nat} {v : Value} {xs : List Value} {S : Nat → Prop} (h : OwnA w base size v n xs) (hm : Mod S w w') (hS : ∀ k, base ≤ k → ¬ S k) : OwnA w' base size v n xs := by
  refine ⟨h.1, ?_⟩
  rcases h.2 with hn | ⟨g, cap, h1, h2, h3, h4, h5, h6, h7⟩
  · exact .inl hn
  · have hb := hm.block g h3 (hS g h2)
    have hc : ∀ j, w'.cell? ⟨g, j, none⟩ = w.cell? ⟨g, j, none⟩ := fun j => World.cell?_of_block (a := ⟨g, j, none⟩) hb
    have hf : ∀ j, w'.frozen? ⟨g, j, none⟩ = w.frozen? ⟨g, j, none⟩ := fun j => World.frozen?_of_block (a := ⟨g, j, none⟩) hb
    exact .inr ⟨g, cap, h1, h2, Nat.lt_of_lt_of_le h3 hm.size, h4, fun j hj => by rw [hc]; exact h5 j hj, fun j hj => by rw [hf]; exact h6 j hj, fun j u hj => by rw [hc]; exact h7 j u hj⟩
theorem OwnA.modB {w w' : World} {base size n : Nat} {v : Value} {xs : List Value} {S : Nat → Prop} (h : OwnA w base size v n xs) (hm : Mod S w w') (hS : ∀ k, some k = v.ownBlock → ¬ S k) : OwnA w' base size v n xs := by
  refine ⟨h.1, ?_⟩
  rcases h.2 with hn | ⟨g, cap, rfl, h2, h3, h4, h5, h6, h7⟩
  · exact .inl hn
  · have hb := hm.block g h3 (hS g rfl)
    have hc : ∀ j, w'.cell? ⟨g, j, none⟩ = w.cell? ⟨g, j, none⟩ := fun j => World.cell?_of_block (a := ⟨g, j, none⟩) hb
    have hf : ∀ j, w'.frozen? ⟨g, j, none⟩ = w.frozen? ⟨g, j, none⟩ := fun j => World.frozen?_of_block (a := ⟨g, j, none⟩) hb
    exact .inr ⟨g, cap, rfl, h2, Nat.lt_of_lt_of_le h3 hm.size, h4, fun j hj => by rw [hc]; exact h5 j hj, fun j hj => by rw [hf]; exact h6 j hj, fun j u hj => by rw [hc]; exact h7 j u hj⟩
theorem OwnA.slAt {w : World} {base n : Nat} {v : Value} {xs : List Value} (h : OwnA w base 1 v n xs) : SlAt w (base ≤ ·) v xs := by
  obtain ⟨h1, h2⟩ := h
  obtain rfl : xs.length = n := by omega
  rcases h2 with ⟨h2, h3⟩ | ⟨g, cap, hv, hg, hl, hn, _, _, hc⟩
  · exact .inl ⟨List.eq_nil_of_length_eq_zero h3, _, _, h2⟩
  · exact .inr ⟨g, 0, cap, hv, hg, hl, hn, fun j u hj => by rw [Nat.zero_add]; exact hc j u hj⟩
theorem OwnA.of_owns {w : World} {base size n : Nat} {e : TypeId} {v : Value} {xs : List Value} (h : w.ownsRow base e size v n xs) : OwnA w base size v n xs := by
  refine ⟨h.1, ?_⟩
  rcases h.2 with hn | ⟨g, cap, cur, rfl, hb, hgg, hnc, _, hcs, htk⟩
  · exact .inl hn
  · refine .inr ⟨g, cap, rfl, hb, lt_of hgg, hnc, fun j hj => ?_, fun j _ => free_of hgg j, fun j u hj => ?_⟩
    · rw [cell_of hgg, Array.getElem?_eq_getElem (by omega)]; rfl
    · rw [cell_of hgg, ← Array.getElem?_toList]
      rw [← htk, List.getElem?_take] at hj
      split at hj
      · exact hj
      · cases hj

theorem run_append_A {P : Program} (w : World) (base : Nat) (t tx ty e : TypeId) (i : TypeInfo) (z : Value) (size bytes : Nat) (ht : P.underlying t = some (.slice e)) (hi : P.info? e = some i) (hz : i.zero = some z)
    (hsize : i.size = size) (hby : i.bytes = bytes) (hzs : z.cells.size = size) (hsz : 0 < size)
    (v : Value) (n : Nat) (xs : List Value) (hown : OwnA w base size v n xs) (x : Value) (m : Nat) (news : List Value) (hs : Src P size tx x m news w)
    (hbytes : (n + m) * bytes ≤ 140737488355328) (h63 : n + m ≤ 9223372036854775807) (hbase : base ≤ w.heap.size) :
    ∃ v' w', (Builtin.append_ #[t, tx] ty #[v, x]).run P w = .ok v' w' ∧ OwnA w' base size v' (n + m) (xs ++ news) ∧ Mod (fun k => some k = v.ownBlock) w w' ∧ (v'.ownBlock = v.ownBlock ∨ v'.ownBlock = some w.heap.size) := by
  subst hsize
  subst hby
  have hlen : (xs ++ news).length = (n + m) * i.size := by rw [List.length_append, hown.1, hs.newsLen, Nat.add_mul]
  have grown : ∀ (old : Nat) (S : Nat → Prop), old < n + m →
      OwnA (w.drew.alloc (.cells ((xs ++ news).toArray ++ Builtin.zeroCells z.cells (grownCap w (n + m) old e - (n + m))) e)) base i.size (.slice (some ⟨w.heap.size, 0, none⟩) (n + m) (grownCap w (n + m) old e)) (n + m) (xs ++ news) ∧
      Mod S w (w.drew.alloc (.cells ((xs ++ news).toArray ++ Builtin.zeroCells z.cells (grownCap w (n + m) old e - (n + m))) e)) := by
    intro old S ho
    have hge := grownCap_ge w (n + m) old e
    generalize grownCap w (n + m) old e = gc at *
    have hN : (w.drew.alloc (.cells ((xs ++ news).toArray ++ Builtin.zeroCells z.cells (gc - (n + m))) e)).heap[w.heap.size]? = some (.cells ((xs ++ news).toArray ++ Builtin.zeroCells z.cells (gc - (n + m))) e (0, 0)) := heap_alloc_new w.drew (.cells ((xs ++ news).toArray ++ Builtin.zeroCells z.cells (gc - (n + m))) e)
    have hcs : ((xs ++ news).toArray ++ Builtin.zeroCells z.cells (gc - (n + m))).size = gc * i.size := by
      rw [Array.size_append, List.size_toArray, size_zeroCells, hzs, hlen, ← Nat.add_mul]
      congr 1
      omega
    refine ⟨⟨hlen, .inr ⟨w.heap.size, gc, rfl, hbase, by simp, hge, fun j hj => ?_, fun j _ => free_of hN j, fun j u hj => ?_⟩⟩, (Mod.refl S w).drew.alloc _⟩
    · rw [cell_of hN, Array.getElem?_eq_getElem (by omega)]; rfl
    · rw [cell_of hN]
      have hjl := (List.getElem?_eq_some_iff.1 hj).1
      rw [Array.getElem?_append_left (by rw [List.size_toArray]; exact hjl), List.getElem?_toArray]
      exact hj
  rcases hown.2 with ⟨rfl, rfl⟩ | ⟨g, cap, rfl, hbg, hgl, hnc, hc, hf, hx⟩
  · have hx : xs = [] := List.eq_nil_of_length_eq_zero (by simpa using hown.1)
    subst hx
    by_cases hm : m = 0
    · subst hm
      have hn : news = [] := List.eq_nil_of_length_eq_zero (by simpa using hs.newsLen)
      subst hn
      refine ⟨.slice none 0 0, w, ?_, OwnA.nil w base i.size, Mod.refl _ _, Or.inl rfl⟩
      rcases hs.kind with ⟨e', hk⟩ | hk <;> simp [Builtin.append_, run_underlying ht, run_underlying hk, sizeOf, typeInfo, hi, hs.len, hs.cells]
    · have hr := run_append_grow_src (P := P) w t tx ty e i z ht hi hz none 0 0 [] (by simp [Builtin.firstCells]) x m news hs (by omega) (by omega) (growslice_fits (by omega) hbytes)
      have hgr := grown 0 (fun k => some k = Value.ownBlock (.slice none 0 0)) (by omega)
      exact ⟨_, _, hr, hgr.1, hgr.2, Or.inr rfl⟩
  · by_cases hroom : n + m ≤ cap
    · have hlt : ∀ j, j < news.length → 0 + n * i.size + j < cap * i.size := by
        intro j hj
        rw [hs.newsLen] at hj
        have : (n + m) * i.size ≤ cap * i.size := Nat.mul_le_mul_right _ hroom
        rw [Nat.add_mul] at this
        omega
      have hr := run_append_room_src (P := P) w t tx ty e i ht hi g 0 n cap x m news hs hroom (fun j hj => hc _ (hlt j hj)) (fun j hj => hf _ (hlt j hj))
      have hm : Mod (fun k => some k = Value.ownBlock (.slice (some ⟨g, 0, none⟩) n cap)) w (w.setCells g (0 + n * i.size) news) := mod_setCells g _ _ _ (Mod.refl _ w) (Or.inl rfl)
      have hin := World.cell?_setCells_in g news (0 + n * i.size) w (fun j hj => hc _ (hlt j hj))
      have hout := fun j (hj : j < 0 + n * i.size ∨ 0 + n * i.size + news.length ≤ j) => World.cell?_setCells_out g news (0 + n * i.size) w ⟨g, j, none⟩ (fun _ _ => hj)
      refine ⟨_, _, hr, ⟨hlen, .inr ⟨g, cap, rfl, hbg, Nat.lt_of_lt_of_le hgl hm.size, hroom, fun j hj => ?_, fun j hj => by rw [World.frozen?_setCells]; exact hf j hj, fun j u hj => ?_⟩⟩, hm, Or.inl rfl⟩
      · by_cases h : j < 0 + n * i.size ∨ 0 + n * i.size + news.length ≤ j
        · rw [hout j h]; exact hc j hj
        · have := hin (j - (0 + n * i.size)) (by omega)
          rw [show 0 + n * i.size + (j - (0 + n * i.size)) = j from by omega] at this
          rw [this]; rfl
      · rw [List.getElem?_append] at hj
        split at hj
        · rename_i h
          rw [hout j (Or.inl (by rw [hown.1] at h; omega))]
          exact hx j u hj
        · rename_i h
          obtain ⟨hk, hu⟩ := List.getElem?_eq_some_iff.1 hj
          rw [hown.1] at h
          have := hin (j - xs.length) hk
          rw [hu, show 0 + n * i.size + (j - xs.length) = j from by rw [hown.1]; omega] at this
          exact this
    · have hold : (Builtin.firstCells i.size n (.slice (some ⟨g, 0, none⟩) n cap)).run P w.drew = .ok xs.toArray w.drew :=
        run_firstCells_some w.drew i.size n ⟨g, 0, none⟩ n cap xs hown.1 (fun j u hj => by
          rw [show (⟨g, 0, none⟩ : Addr).add j = ⟨g, j, none⟩ from by unfold Addr.add; split <;> simp_all]; exact hx j u hj)
      have hr := run_append_grow_src (P := P) w t tx ty e i z ht hi hz (some ⟨g, 0, none⟩) n cap xs hold x m news hs (by omega) (by omega) (growslice_fits (by omega) hbytes)
      have hgr := grown cap (fun k => some k = Value.ownBlock (.slice (some ⟨g, 0, none⟩) n cap)) (by omega)
      exact ⟨_, _, hr, hgr.1, hgr.2, Or.inr rfl⟩

/-- 'append(s, x...)', wherever it stands: s the call's own -/
theorem op_append {P : Program} {w : World} {o : Oper} {a : Act} {K : Act → World → Prop} {Q : Exit → Act → World → Prop} (s x : Operand) (t tx : TypeId)
    (ho : o.op = .call { callee := .builtin .append, args := #[s, x], argTypes := #[t, tx] })
    (base : Nat) (e : TypeId) (z : Value) (size bytes : Nat) (ht : P.underlying t = some (.slice e)) (hi : (P.info? e).map (fun i => (i.zero, i.size, i.bytes)) = some (some z, size, bytes)) (hzs : z.cells.size = size) (hsz : 0 < size)
    (v : Value) (n : Nat) (xs : List Value) (hv : a.eval s = v) (hown : OwnA w base size v n xs) (X : Value) (m : Nat) (news : List Value) (hx : a.eval x = X) (hs : Src P size tx X m news w)
    (hbytes : (n + m) * bytes ≤ 140737488355328) (h63 : n + m ≤ 9223372036854775807) (hbase : base ≤ w.heap.size)
    (h : ∀ v' w', OwnA w' base size v' (n + m) (xs ++ news) → Mod (fun k => some k = v.ownBlock) w w' → (v'.ownBlock = v.ownBlock ∨ v'.ownBlock = some w.heap.size) → K (a.put o.dst v') w') : o.wp P a w K Q := by
  obtain ⟨i, hi0, hz0, hi1, hi2⟩ := info_parts hi
  obtain ⟨v', w', hr, h2, h3, h4⟩ := run_append_A (P := P) w base t tx o.type e i z size bytes ht hi0 hz0 hi1 hi2 hzs hsz v n xs hown X m news hs hbytes h63 hbase
  unfold Oper.wp execOp
  simp only [ho, resolve, invoke, builtin, Sem.run_bind, Sem.run_pure, Result.andThen_ok, List.map_toArray, List.map_cons, List.map_nil, hv, hx, hr]
  exact h v' w' h2 h3 h4
/-- the same, and where the row lies then -/
theorem wpl_appendB {P : Program} {w : World} {ops : Array Oper} {rest : List Oper} {o : Oper} {a : Act} {Q : Exit → Act → World → Prop} (hgd : o.guard = none) (s x : Operand) (t tx : TypeId)
    (ho : o.op = .call { callee := .builtin .append, args := #[s, x], argTypes := #[t, tx] })
    (base : Nat) (e : TypeId) (z : Value) (size bytes : Nat) (ht : P.underlying t = some (.slice e)) (hi : (P.info? e).map (fun i => (i.zero, i.size, i.bytes)) = some (some z, size, bytes)) (hzs : z.cells.size = size) (hsz : 0 < size)
    (v : Value) (n : Nat) (xs : List Value) (hv : a.eval s = v) (hown : OwnA w base size v n xs) (X : Value) (m : Nat) (news : List Value) (hx : a.eval x = X) (hs : Src P size tx X m news w)
    (hbytes : (n + m) * bytes ≤ 140737488355328) (h63 : n + m ≤ 9223372036854775807) (hbase : base ≤ w.heap.size)
    (h : ∀ v' w', OwnA w' base size v' (n + m) (xs ++ news) → Mod (fun k => some k = v.ownBlock) w w' → (v'.ownBlock = v.ownBlock ∨ v'.ownBlock = some w.heap.size) → wpList P ops Q rest (a.put o.dst v') w') : wpList P ops Q (o :: rest) a w :=
  wpList_plain hgd fun _ hK => op_append s x t tx ho base e z size bytes ht hi hzs hsz v n xs hv hown X m news hx hs hbytes h63 hbase fun v' w' h1 h2 h3 => hK _ _ (h v' w' h1 h2 h3)
/-- 'append(s, x...)': s the call's own -/
theorem wpl_append {P : Program} {w : World} {ops : Array Oper} {rest : List Oper} {o : Oper} {a : Act} {Q : Exit → Act → World → Prop} (hgd : o.guard = none) (s x : Operand) (t tx : TypeId)
    (ho : o.op = .call { callee := .builtin .append, args := #[s, x], argTypes := #[t, tx] })
    (base : Nat) (e : TypeId) (z : Value) (size bytes : Nat) (ht : P.underlying t = some (.slice e)) (hi : (P.info? e).map (fun i => (i.zero, i.size, i.bytes)) = some (some z, size, bytes)) (hzs : z.cells.size = size) (hsz : 0 < size)
    (v : Value) (n : Nat) (xs : List Value) (hv : a.eval s = v) (hown : OwnA w base size v n xs) (X : Value) (m : Nat) (news : List Value) (hx : a.eval x = X) (hs : Src P size tx X m news w)
    (hbytes : (n + m) * bytes ≤ 140737488355328) (h63 : n + m ≤ 9223372036854775807) (hbase : base ≤ w.heap.size)
    (h : ∀ v' w', OwnA w' base size v' (n + m) (xs ++ news) → Mod (fun k => some k = v.ownBlock) w w' → wpList P ops Q rest (a.put o.dst v') w') : wpList P ops Q (o :: rest) a w :=
  wpList_plain hgd fun _ hK => op_append s x t tx ho base e z size bytes ht hi hzs hsz v n xs hv hown X m news hx hs hbytes h63 hbase fun v' w' h1 h2 _ => hK _ _ (h v' w' h1 h2)

theorem OwnA.succ {w : World} {base size n : Nat} {v : Value} {xs : List Value} (h : OwnA w base size v (n + 1) xs) : ∃ g cap, v = .slice (some ⟨g, 0, none⟩) (n + 1) cap := by
  rcases h.2 with ⟨_, h0⟩ | ⟨g, cap, hv, _⟩
  · omega
  · exact ⟨g, cap, hv⟩
theorem OwnA.lt {w : World} {base size n : Nat} {v : Value} {xs : List Value} (h : OwnA w base size v n xs) : ∀ k, some k = v.ownBlock → base ≤ k ∧ k < w.heap.size := by
  intro k hk
  rcases h.2 with ⟨rfl, _⟩ | ⟨g, cap, rfl, hb, hg, _⟩
  · simp [Value.ownBlock] at hk
  · simp [Value.ownBlock] at hk
    subst hk
    exact ⟨hb, hg⟩
/-- what an append to what is new turns: nothing that was there -/
theorem OwnA.thenMod {w0 w w' : World} {S : Nat → Prop} {base size n : Nat} {v : Value} {xs : List Value} (h : OwnA w base size v n xs) (hm : Mod S w0 w) (hg : Mod (fun k => some k = v.ownBlock) w w') (hb : w0.heap.size ≤ base) : Mod S w0 w' :=
  hm.trans' hg fun k hk x => by have := (h.lt k x).1; omega
theorem OwnA.keep {w w' : World} {base size n b : Nat} {v : Value} {xs : List Value} (h : OwnA w base size v n xs) (hg : Mod (fun k => some k = v.ownBlock) w w') (hb : b < base) (hw : b < w.heap.size) : w'.heap[b]? = w.heap[b]? :=
  hg.block b hw fun x => by have := (h.lt b x).1; omega

theorem src_slAt {P : Program} {w : World} {tx e : TypeId} (hk : P.underlying tx = some (.slice e)) {Q : Nat → Prop} {a : Option Addr} {n c : Nat} {xs : List Value} (h : SlAt w Q (.slice a n c) xs) (hn : xs.length = n) (h1 : ∀ u ∈ xs, u.oneCell' = true) : Src P 1 tx (.slice a n c) n xs w := by
  rcases h with ⟨rfl, a', c', h⟩ | ⟨g, off, cap, h, _, _, _, hc⟩
  · obtain rfl : n = 0 := hn.symm
    cases a with
    | none => exact Src.ofNil _ hk c
    | some ad => exact Src.ofSlice _ hk ad 0 c [] rfl (fun j u hj => by simp at hj) h1
  · injection h with e1 e2 e3
    subst e1
    refine Src.ofSlice _ hk _ n c xs (by omega) (fun j u hj => ?_) h1
    rw [show (⟨g, off, none⟩ : Addr).add j = ⟨g, off + j, none⟩ from by unfold Addr.add; split <;> simp_all]
    exact hc j u hj
end Go.Proofs.YtkcnbbjmkkaolaaGreatDoor
namespace Go.Proofs.YtkcnbbjmkkaolaaGreatDoor
open Go.RowKit

/-- ends as it should, and at the end Q -/
def onlyN (Q : Exit → Act → World → Prop) : Exit → Act → World → Prop
  | .normal, a, w => Q .normal a w
  | _, _, _ => False
theorem onlyN_out {Q : Exit → Act → World → Prop} {a : Act} {w : World} (h : Q .normal a w) : onlyN Q .normal a w := h

section
variable {F : Fence} {n : Nat} {P : Program} {ops : Array Oper} {md : Region.Mode} {Q : Exit → Act → World → Prop}
def noDefer (ops : List Oper) : Bool := ops.all fun o => match o.op with | .defer _ => false | _ => true
theorem noDefer_spec {ops : Array Oper} (h : noDefer ops.toList = true) {i : Nat} {o : Oper} (hi : ops[i]? = some o) : ∀ c, o.op ≠ .defer c := by
  intro c hc
  simp only [noDefer, List.all_eq_true] at h
  have := h o (by rw [Array.mem_toList_iff]; exact Array.mem_of_getElem? hi)
  rw [hc] at this
  cases this
end
end Go.Proofs.YtkcnbbjmkkaolaaGreatDoor
namespace Go.Proofs.YtkcnbbjmkkaolaaGreatDoor
open Go.RowKit

/-- a slice of stats that reads as l; its block meets P -/
def StsAt (w : World) (P : Nat → Prop) (v : Value) (l : List St) : Prop :=
  (l = [] ∧ ∃ a c, v = .slice a 0 c) ∨ ∃ g off cap, v = .slice (some ⟨g, off, none⟩) l.length cap ∧ P g ∧ g < w.heap.size ∧ l.length ≤ cap ∧
    ∀ j s, l[j]? = some s → ∀ i u, s.cells[i]? = some u → w.cell? ⟨g, off + j * 13 + i, none⟩ = some u
theorem StsAt.mod {w w' : World} {P S : Nat → Prop} {v : Value} {l : List St} (h : StsAt w P v l) (hm : Mod S w w') (hp : ∀ g, P g → g < w.heap.size → ¬ S g) : StsAt w' P v l := by
  rcases h with h | ⟨g, off, cap, h1, h2, h3, h4, h5⟩
  · exact .inl h
  · exact .inr ⟨g, off, cap, h1, h2, Nat.lt_of_lt_of_le h3 hm.size, h4, fun j s hj i u hu => (World.cell?_of_block (hm.block g h3 (hp g h2 h3))).trans (h5 j s hj i u hu)⟩
theorem StsAt.imp {w : World} {P Q : Nat → Prop} {v : Value} {l : List St} (h : StsAt w P v l) (hp : ∀ g, P g → Q g) : StsAt w Q v l := by
  rcases h with h | ⟨g, off, cap, h1, h2, h3⟩
  · exact .inl h
  · exact .inr ⟨g, off, cap, h1, hp g h2, h3⟩
theorem StsAt.form {w : World} {P : Nat → Prop} {v : Value} {l : List St} (h : StsAt w P v l) : ∃ a cap, v = .slice a l.length cap ∧ l.length ≤ cap ∧
    ∀ j s, l[j]? = some s → ∃ g off, a = some ⟨g, off, none⟩ ∧ P g ∧ g < w.heap.size ∧ ∀ i u, s.cells[i]? = some u → w.cell? ⟨g, off + j * 13 + i, none⟩ = some u := by
  rcases h with ⟨rfl, a, c, rfl⟩ | ⟨g, off, cap, h1, h2, h3, h4, h5⟩
  · exact ⟨a, c, rfl, Nat.zero_le _, fun j u hj => by simp at hj⟩
  · exact ⟨_, cap, h1, h4, fun j s hj => ⟨g, off, rfl, h2, h3, h5 j s hj⟩⟩

end Go.Proofs.YtkcnbbjmkkaolaaGreatDoor
namespace Go.Proofs.YtkcnbbjmkkaolaaGreatDoor
open Go.ChangeShapes Go.WideShapes Go.ChangeAt Go.RowKit

theorem wf_lt {k : IntKind} {x : Int} {m : Int} (h : (Lit.int k x).wf = true) (h0 : k.min = 0) (h1 : k.max = m) : ∃ n : Nat, x = n ∧ (n : Int) ≤ m := by
  simp only [Lit.wf, Bool.and_eq_true, decide_eq_true_eq, h0, h1] at h
  exact ⟨x.toNat, by omega, by omega⟩
theorem list13 {α : Type} (l : List α) (h : l.length = 13) : ∃ c0 c1 c2 c3 c4 c5 c6 c7 c8 c9 c10 c11 c12, l = [c0, c1, c2, c3, c4, c5, c6, c7, c8, c9, c10, c11, c12] := by
  match l, h with
  | [c0, c1, c2, c3, c4, c5, c6, c7, c8, c9, c10, c11, c12], _ => exact ⟨_, _, _, _, _, _, _, _, _, _, _, _, _, rfl⟩
theorem list11 {α : Type} (l : List α) (h : l.length = 11) : ∃ c0 c1 c2 c3 c4 c5 c6 c7 c8 c9 c10, l = [c0, c1, c2, c3, c4, c5, c6, c7, c8, c9, c10] := by
  match l, h with
  | [c0, c1, c2, c3, c4, c5, c6, c7, c8, c9, c10], _ => exact ⟨_, _, _, _, _, _, _, _, _, _, _, rfl⟩
theorem list3 {α : Type} (l : List α) (h : l.length = 3) : ∃ c0 c1 c2, l = [c0, c1, c2] := by
  match l, h with
  | [c0, c1, c2], _ => exact ⟨_, _, _, rfl⟩

set_option maxRecDepth 100000 in
set_option maxHeartbeats 2000000 in
theorem trod_stat {H : Type} {enc : TypeId × Value → H} {W : World} {fuel : Nat} {cs : List Value} {x : DataW H × List MemPlace} (h : DataW.trod enc Tryz.prog W 0 (fun _ => true) true fuel 37 cs = some x) :
    ∃ s : St, cs = s.cells ∧ s.Ok ∧ ((∀ k ∈ x.1.weights Tryz.prog 37, k ≤ reachBytes) → s.n.size ≤ reachBytes ∧ s.u.size ≤ reachBytes ∧ s.g.size ≤ reachBytes ∧ s.m.size ≤ reachBytes) := by
  obtain ⟨xs, fu, rfl, rfl, hl, hlen, hf⟩ := DataW.trod_struct Tryz.underlying37 h
  rw [show Tryz.prog.cellsOf 37 = 13 from by kernel_rfl] at hl
  obtain ⟨c0, c1, c2, c3, c4, c5, c6, c7, c8, c9, c10, c11, c12, rfl⟩ := list13 cs hl
  obtain ⟨y0, y1, y2, y3, y4, y5, y6, y7, y8, y9, y10, rfl⟩ := list11 xs hlen
  have gc0 : DataW.trod enc Tryz.prog W 0 (fun _ => true) true fu 32 [c0] = some y0 := by
    have h : DataW.trod enc Tryz.prog W 0 (fun _ => true) true fu 32 (List.take (Tryz.prog.cellsOf 32) (List.drop 0 [c0, c1, c2, c3, c4, c5, c6, c7, c8, c9, c10, c11, c12])) = some y0 := hf 0 _ rfl
    rw [show Tryz.prog.cellsOf 32 = 1 from by kernel_rfl] at h
    exact h
  obtain ⟨xc0, ec0, _, wc0⟩ := DataW.trod_int Tryz.underlying32 gc0
  obtain ⟨ty, rfl, bty⟩ := wf_lt (m := 65535) wc0 rfl rfl
  obtain rfl : c0 = .int .u16 ty := by simpa using ec0
  clear gc0 ec0 wc0
  have gc1 : DataW.trod enc Tryz.prog W 0 (fun _ => true) true fu 22 [c1] = some y1 := by
    have h : DataW.trod enc Tryz.prog W 0 (fun _ => true) true fu 22 (List.take (Tryz.prog.cellsOf 22) (List.drop 1 [.int .u16 ty, c1, c2, c3, c4, c5, c6, c7, c8, c9, c10, c11, c12])) = some y1 := hf 1 _ rfl
    rw [show Tryz.prog.cellsOf 22 = 1 from by kernel_rfl] at h
    exact h
  obtain ⟨xc1, ec1, _, wc1⟩ := DataW.trod_int Tryz.underlying22 gc1
  obtain ⟨dev, rfl, bdev⟩ := wf_lt (m := 4294967295) wc1 rfl rfl
  obtain rfl : c1 = .int .u32 dev := by simpa using ec1
  clear gc1 ec1 wc1
  have gc5 : DataW.trod enc Tryz.prog W 0 (fun _ => true) true fu 22 [c5] = some y3 := by
    have h : DataW.trod enc Tryz.prog W 0 (fun _ => true) true fu 22 (List.take (Tryz.prog.cellsOf 22) (List.drop 5 [.int .u16 ty, .int .u32 dev, c2, c3, c4, c5, c6, c7, c8, c9, c10, c11, c12])) = some y3 := hf 3 _ rfl
    rw [show Tryz.prog.cellsOf 22 = 1 from by kernel_rfl] at h
    exact h
  obtain ⟨xc5, ec5, _, wc5⟩ := DataW.trod_int Tryz.underlying22 gc5
  obtain ⟨mo, rfl, bmo⟩ := wf_lt (m := 4294967295) wc5 rfl rfl
  obtain rfl : c5 = .int .u32 mo := by simpa using ec5
  clear gc5 ec5 wc5
  have gc6 : DataW.trod enc Tryz.prog W 0 (fun _ => true) true fu 22 [c6] = some y4 := by
    have h : DataW.trod enc Tryz.prog W 0 (fun _ => true) true fu 22 (List.take (Tryz.prog.cellsOf 22) (List.drop 6 [.int .u16 ty, .int .u32 dev, c2, c3, c4, .int .u32 mo, c6, c7, c8, c9, c10, c11, c12])) = some y4 := hf 4 _ rfl
    rw [show Tryz.prog.cellsOf 22 = 1 from by kernel_rfl] at h
    exact h
  obtain ⟨xc6, ec6, _, wc6⟩ := DataW.trod_int Tryz.underlying22 gc6
  obtain ⟨at_, rfl, bat_⟩ := wf_lt (m := 4294967295) wc6 rfl rfl
  obtain rfl : c6 = .int .u32 at_ := by simpa using ec6
  clear gc6 ec6 wc6
  have gc7 : DataW.trod enc Tryz.prog W 0 (fun _ => true) true fu 22 [c7] = some y5 := by
    have h : DataW.trod enc Tryz.prog W 0 (fun _ => true) true fu 22 (List.take (Tryz.prog.cellsOf 22) (List.drop 7 [.int .u16 ty, .int .u32 dev, c2, c3, c4, .int .u32 mo, .int .u32 at_, c7, c8, c9, c10, c11, c12])) = some y5 := hf 5 _ rfl
    rw [show Tryz.prog.cellsOf 22 = 1 from by kernel_rfl] at h
    exact h
  obtain ⟨xc7, ec7, _, wc7⟩ := DataW.trod_int Tryz.underlying22 gc7
  obtain ⟨mt, rfl, bmt⟩ := wf_lt (m := 4294967295) wc7 rfl rfl
  obtain rfl : c7 = .int .u32 mt := by simpa using ec7
  clear gc7 ec7 wc7
  have gc8 : DataW.trod enc Tryz.prog W 0 (fun _ => true) true fu 33 [c8] = some y6 := by
    have h : DataW.trod enc Tryz.prog W 0 (fun _ => true) true fu 33 (List.take (Tryz.prog.cellsOf 33) (List.drop 8 [.int .u16 ty, .int .u32 dev, c2, c3, c4, .int .u32 mo, .int .u32 at_, .int .u32 mt, c8, c9, c10, c11, c12])) = some y6 := hf 6 _ rfl
    rw [show Tryz.prog.cellsOf 33 = 1 from by kernel_rfl] at h
    exact h
  obtain ⟨xc8, ec8, _, wc8⟩ := DataW.trod_int Tryz.underlying33 gc8
  obtain ⟨len, rfl, blen⟩ := wf_lt (m := 18446744073709551615) wc8 rfl rfl
  obtain rfl : c8 = .int .u64 len := by simpa using ec8
  clear gc8 ec8 wc8
  have gc9 : DataW.trod enc Tryz.prog W 0 (fun _ => true) true fu 9 [c9] = some y7 := by
    have h : DataW.trod enc Tryz.prog W 0 (fun _ => true) true fu 9 (List.take (Tryz.prog.cellsOf 9) (List.drop 9 [.int .u16 ty, .int .u32 dev, c2, c3, c4, .int .u32 mo, .int .u32 at_, .int .u32 mt, .int .u64 len, c9, c10, c11, c12])) = some y7 := hf 7 _ rfl
    rw [show Tryz.prog.cellsOf 9 = 1 from by kernel_rfl] at h
    exact h
  obtain ⟨sn, ec9, dc9, wc9⟩ := DataW.trod_string Tryz.underlying9 gc9
  obtain rfl : c9 = .string sn := by simpa using ec9
  subst dc9
  clear gc9 ec9
  have gc10 : DataW.trod enc Tryz.prog W 0 (fun _ => true) true fu 9 [c10] = some y8 := by
    have h : DataW.trod enc Tryz.prog W 0 (fun _ => true) true fu 9 (List.take (Tryz.prog.cellsOf 9) (List.drop 10 [.int .u16 ty, .int .u32 dev, c2, c3, c4, .int .u32 mo, .int .u32 at_, .int .u32 mt, .int .u64 len, .string sn, c10, c11, c12])) = some y8 := hf 8 _ rfl
    rw [show Tryz.prog.cellsOf 9 = 1 from by kernel_rfl] at h
    exact h
  obtain ⟨su, ec10, dc10, wc10⟩ := DataW.trod_string Tryz.underlying9 gc10
  obtain rfl : c10 = .string su := by simpa using ec10
  subst dc10
  clear gc10 ec10
  have gc11 : DataW.trod enc Tryz.prog W 0 (fun _ => true) true fu 9 [c11] = some y9 := by
    have h : DataW.trod enc Tryz.prog W 0 (fun _ => true) true fu 9 (List.take (Tryz.prog.cellsOf 9) (List.drop 11 [.int .u16 ty, .int .u32 dev, c2, c3, c4, .int .u32 mo, .int .u32 at_, .int .u32 mt, .int .u64 len, .string sn, .string su, c11, c12])) = some y9 := hf 9 _ rfl
    rw [show Tryz.prog.cellsOf 9 = 1 from by kernel_rfl] at h
    exact h
  obtain ⟨sg, ec11, dc11, wc11⟩ := DataW.trod_string Tryz.underlying9 gc11
  obtain rfl : c11 = .string sg := by simpa using ec11
  subst dc11
  clear gc11 ec11
  have gc12 : DataW.trod enc Tryz.prog W 0 (fun _ => true) true fu 9 [c12] = some y10 := by
    have h : DataW.trod enc Tryz.prog W 0 (fun _ => true) true fu 9 (List.take (Tryz.prog.cellsOf 9) (List.drop 12 [.int .u16 ty, .int .u32 dev, c2, c3, c4, .int .u32 mo, .int .u32 at_, .int .u32 mt, .int .u64 len, .string sn, .string su, .string sg, c12])) = some y10 := hf 10 _ rfl
    rw [show Tryz.prog.cellsOf 9 = 1 from by kernel_rfl] at h
    exact h
  obtain ⟨sm, ec12, dc12, wc12⟩ := DataW.trod_string Tryz.underlying9 gc12
  obtain rfl : c12 = .string sm := by simpa using ec12
  subst dc12
  clear gc12 ec12
  have hq : DataW.trod enc Tryz.prog W 0 (fun _ => true) true fu 35 [c2, c3, c4] = some y2 := by
    have h : DataW.trod enc Tryz.prog W 0 (fun _ => true) true fu 35 (List.take (Tryz.prog.cellsOf 35) (List.drop 2 [.int .u16 ty, .int .u32 dev, c2, c3, c4, .int .u32 mo, .int .u32 at_, .int .u32 mt, .int .u64 len, .string sn, .string su, .string sg, .string sm])) = some y2 := hf 2 _ rfl
    rw [show Tryz.prog.cellsOf 35 = 3 from by kernel_rfl] at h
    exact h
  clear hf
  obtain ⟨qs, fu, rfl, rfl, _, hql, hqf⟩ := DataW.trod_struct Tryz.underlying35 hq
  obtain ⟨z0, z1, z2, rfl⟩ := list3 qs hql
  have gc2 : DataW.trod enc Tryz.prog W 0 (fun _ => true) true fu 5 [c2] = some z0 := by
    have h : DataW.trod enc Tryz.prog W 0 (fun _ => true) true fu 5 (List.take (Tryz.prog.cellsOf 5) (List.drop 0 [c2, c3, c4])) = some z0 := hqf 0 _ rfl
    rw [show Tryz.prog.cellsOf 5 = 1 from by kernel_rfl] at h
    exact h
  obtain ⟨xc2, ec2, _, wc2⟩ := DataW.trod_int Tryz.underlying5 gc2
  obtain ⟨qt, rfl, bqt⟩ := wf_lt (m := 255) wc2 rfl rfl
  obtain rfl : c2 = .int .u8 qt := by simpa using ec2
  clear gc2 ec2 wc2
  have gc3 : DataW.trod enc Tryz.prog W 0 (fun _ => true) true fu 22 [c3] = some z1 := by
    have h : DataW.trod enc Tryz.prog W 0 (fun _ => true) true fu 22 (List.take (Tryz.prog.cellsOf 22) (List.drop 1 [.int .u8 qt, c3, c4])) = some z1 := hqf 1 _ rfl
    rw [show Tryz.prog.cellsOf 22 = 1 from by kernel_rfl] at h
    exact h
  obtain ⟨xc3, ec3, _, wc3⟩ := DataW.trod_int Tryz.underlying22 gc3
  obtain ⟨qv, rfl, bqv⟩ := wf_lt (m := 4294967295) wc3 rfl rfl
  obtain rfl : c3 = .int .u32 qv := by simpa using ec3
  clear gc3 ec3 wc3
  have gc4 : DataW.trod enc Tryz.prog W 0 (fun _ => true) true fu 33 [c4] = some z2 := by
    have h : DataW.trod enc Tryz.prog W 0 (fun _ => true) true fu 33 (List.take (Tryz.prog.cellsOf 33) (List.drop 2 [.int .u8 qt, .int .u32 qv, c4])) = some z2 := hqf 2 _ rfl
    rw [show Tryz.prog.cellsOf 33 = 1 from by kernel_rfl] at h
    exact h
  obtain ⟨xc4, ec4, _, wc4⟩ := DataW.trod_int Tryz.underlying33 gc4
  obtain ⟨qp, rfl, bqp⟩ := wf_lt (m := 18446744073709551615) wc4 rfl rfl
  obtain rfl : c4 = .int .u64 qp := by simpa using ec4
  clear gc4 ec4 wc4
  refine ⟨⟨ty, dev, qt, qv, qp, mo, at_, mt, len, sn, su, sg, sm⟩, rfl, ⟨by show ty < _; omega, by show dev < _; omega, by show qt < _; omega, by show qv < _; omega, by show qp < _; omega, by show mo < _; omega, by show at_ < _; omega, by show mt < _; omega, by show len < _; omega⟩, fun hw => ?_⟩
  exact ⟨by have := hw sn.data.toList.length (by simp [DataW.weights, DataW.weightsEach, Tryz.underlying37]); rwa [Array.length_toList] at this, by have := hw su.data.toList.length (by simp [DataW.weights, DataW.weightsEach, Tryz.underlying37]); rwa [Array.length_toList] at this, by have := hw sg.data.toList.length (by simp [DataW.weights, DataW.weightsEach, Tryz.underlying37]); rwa [Array.length_toList] at this, by have := hw sm.data.toList.length (by simp [DataW.weights, DataW.weightsEach, Tryz.underlying37]); rwa [Array.length_toList] at this⟩
theorem weightsAll_mem {H : Type} {P : Program} {e : TypeId} {d : DataW H} {k : Nat} : ∀ {ds : List (DataW H)}, d ∈ ds → k ∈ d.weights P e → k ∈ DataW.weightsAll P e ds
  | [], h, _ => by cases h
  | d0 :: ds, h, hk => by
    simp only [DataW.weightsAll, List.mem_append]
    rcases List.mem_cons.1 h with rfl | h
    · exact Or.inl hk
    · exact Or.inr (weightsAll_mem h hk)
end Go.Proofs.YtkcnbbjmkkaolaaGreatDoor
namespace Go.Proofs.YtkcnbbjmkkaolaaGreatDoor

/-- a file -/
structure Nd where
  path : Nat
  dir : Bool
  ver : Nat
  perm : Nat
  uid : ByteArray
  gid : ByteArray
  muid : ByteArray
  atime : Nat
  mtime : Nat
  parent : Nat
  name : ByteArray
  data : ByteArray
  kids : List Nat
/-- all files, by rising paths; the path given last -/
structure Tr where
  L : List Nd
  last : Nat
structure Qi where
  t : Nat
  v : Nat
  p : Nat
def Qi.zero : Qi := ⟨0, 0, 0⟩
def St.none : St := ⟨0, 0, 0, 0, 0, 0, 0, 0, 0, ByteArray.empty, ByteArray.empty, ByteArray.empty, ByteArray.empty⟩
def St.un : St := ⟨65535, 4294967295, 255, 4294967295, 18446744073709551615, 4294967295, 4294967295, 4294967295, 18446744073709551615, ByteArray.empty, ByteArray.empty, ByteArray.empty, ByteArray.empty⟩
def look (L : List Nd) (p : Nat) : Option Nd := L.find? fun n => n.path == p
def updN (L : List Nd) (p : Nat) (f : Nd → Nd) : List Nd := L.map fun n => if n.path = p then f n else n
def modeOf (n : Nd) : Nat := n.perm + (if n.dir then 2147483648 else 0)
def qidOf (n : Nd) : Qi := ⟨if n.dir then 128 else 0, n.ver, n.path⟩
def statOf (n : Nd) : St := ⟨0, 0, if n.dir then 128 else 0, n.ver, n.path, modeOf n, n.atime, n.mtime, n.data.size, n.name, n.uid, n.gid, n.muid⟩
def Nd.touch (n : Nd) (who : ByteArray) (now : Nat) : Nd := { n with ver := (n.ver + 1) % 4294967296, mtime := now, muid := who }
/-- may who do something (4, 2, 1) with it? -/
def mayB (n : Nd) (who : ByteArray) (b : Nat) : Bool :=
  ((if who = n.uid then n.perm >>> 6 &&& 7 else if who = n.gid then n.perm >>> 3 &&& 7 else n.perm &&& 7) &&& b) == b
def userOk (s : ByteArray) : Bool := nameOk s && decide (s.size ≤ 20)
def modeB (m : Nat) : Bool := decide (m &&& 175 ≤ 3)
def needOf (m : Nat) : Nat := if m &&& 3 = 0 then 4 else if m &&& 3 = 1 then 2 else if m &&& 3 = 2 then 6 else 1
def dotdot : ByteArray := ⟨#[46, 46]⟩
/-- the kid of a name: the first, by places -/
def kidGo (L : List Nd) (name : ByteArray) : List Nat → Option Nd
  | [] => none
  | k :: r => match look L k with
    | some n => if n.name = name then some n else kidGo L name r
    | none => kidGo L name r
def kidOf (L : List Nd) (d : Nd) (name : ByteArray) : Option Nd := kidGo L name d.kids
def cntOf (n : Nd) : Nat := (n.kids.filter fun k => decide (k ≠ 0)).length
def parOf (L : List Nd) (n : Nd) : Nd := (look L n.parent).getD n
def statT (T : Tr) (p : Nat) : St × Int := match look T.L p with
  | none => (St.none, 180)
  | some n => (statOf n, 0)
def parentT (T : Tr) (p : Nat) : Nat × Int := match look T.L p with
  | none => (0, 180)
  | some n => (n.parent, 0)
/-- what stands in the way of a walk -/
def walkE (T : Tr) (n : Nd) (name who : ByteArray) : Int :=
  if n.dir = false then 181
  else if mayB n who 1 = false then 182
  else if name = dotdot then 0
  else if nameOk name = false then 183
  else if kidOf T.L n name = none then 180
  else 0
def walkT (T : Tr) (p : Nat) (name who : ByteArray) : Qi × Int := match look T.L p with
  | none => (Qi.zero, 180)
  | some n => if walkE T n name who ≠ 0 then (Qi.zero, walkE T n name who)
    else if name = dotdot then (qidOf (parOf T.L n), 0)
    else (((kidOf T.L n name).map qidOf).getD Qi.zero, 0)
def openE (T : Tr) (n : Nd) (m : Nat) (who : ByteArray) : Int :=
  if modeB m = false then 186
  else if n.dir = true ∧ m ≠ 0 then 181
  else if mayB n who (needOf m) = false ∨ (m &&& 16 ≠ 0 ∧ mayB n who 2 = false) then 182
  else if m &&& 64 ≠ 0 ∧ mayB (parOf T.L n) who 2 = false then 182
  else 0
def openT (T : Tr) (p m : Nat) (who : ByteArray) (now : Nat) : Tr × Qi × Int := match look T.L p with
  | none => (T, Qi.zero, 180)
  | some n => if openE T n m who ≠ 0 then (T, Qi.zero, openE T n m who)
    else if m &&& 16 ≠ 0 ∧ n.data.size ≠ 0 then ({ T with L := updN T.L p fun n => Nd.touch { n with data := ByteArray.empty } who now }, qidOf (Nd.touch { n with data := ByteArray.empty } who now), 0)
    else (T, qidOf n, 0)
/-- the bits of a new file -/
def newPerm (isDir : Bool) (perm dperm : Nat) : Nat := perm &&& 511 &&& (4294967295 - ((if isDir then 511 else 438) &&& (4294967295 - dperm)))
/-- a new kid takes the first place that is free -/
def putKid : List Nat → Nat → List Nat
  | [], p => [p]
  | k :: r, p => if k = 0 then p :: r else k :: putKid r p
def createE (T : Tr) (d : Nd) (name : ByteArray) (perm m : Nat) (who : ByteArray) : Int :=
  if d.dir = false then 181
  else if mayB d who 2 = false then 182
  else if nameOk name = false ∨ userOk who = false then 183
  else if perm &&& 2147483136 ≠ 0 ∨ modeB m = false ∨ (2147483648 ≤ perm ∧ m ≠ 0) then 186
  else if kidOf T.L d name ≠ none then 184
  else if 1024 ≤ T.L.length ∨ 112 ≤ cntOf d then 6
  else 0
def newNd (T : Tr) (d : Nd) (name : ByteArray) (perm : Nat) (who : ByteArray) (now : Nat) : Nd :=
  ⟨T.last + 1, decide (2147483648 ≤ perm), 0, newPerm (decide (2147483648 ≤ perm)) perm d.perm, who, d.gid, who, now, now, d.path, name, ByteArray.empty, []⟩
def createT (T : Tr) (p : Nat) (name : ByteArray) (perm m : Nat) (who : ByteArray) (now : Nat) : Tr × Qi × Int := match look T.L p with
  | none => (T, Qi.zero, 180)
  | some d => if createE T d name perm m who ≠ 0 then (T, Qi.zero, createE T d name perm m who)
    else (⟨updN T.L p (fun d => Nd.touch { d with kids := putKid d.kids (T.last + 1) } who now) ++ [newNd T d name perm who now], T.last + 1⟩, qidOf (newNd T d name perm who now), 0)
def readB (s : ByteArray) (off count : Nat) : ByteArray := s.extract (min off s.size) (min (min off s.size + count) s.size)
def readT (T : Tr) (p off count : Nat) : ByteArray × Int := match look T.L p with
  | none => (ByteArray.empty, 180)
  | some n => if n.dir = true then (ByteArray.empty, 181) else (readB n.data off count, 0)
def kidSts (L : List Nd) (n : Nd) : List St := (n.kids.filter fun k => decide (k ≠ 0)).map fun k => ((look L k).map statOf).getD St.none
def listT (T : Tr) (p : Nat) : List St × Int := match look T.L p with
  | none => ([], 180)
  | some n => if n.dir = false then ([], 181) else (kidSts T.L n, 0)
/-- bytes, cut, or with noughts behind -/
def sizedB (s : ByteArray) (n : Nat) : ByteArray := if n ≤ s.size then s.extract 0 n else s ++ bs (List.replicate (n - s.size) 0)
def writeB (s : ByteArray) (off : Nat) (d : ByteArray) : ByteArray := (sizedB s (max s.size (off + d.size))).extract 0 off ++ d ++ (sizedB s (max s.size (off + d.size))).extract (off + d.size) (max s.size (off + d.size))
def writeT (T : Tr) (p off : Nat) (d who : ByteArray) (now : Nat) : Tr × Nat × Int := match look T.L p with
  | none => (T, 0, 180)
  | some n => if n.dir = true then (T, 0, 181)
    else if 7168 < off + d.size then (T, 0, 4)
    else if d.size = 0 then (T, 0, 0)
    else ({ T with L := updN T.L p fun n => Nd.touch { n with data := writeB n.data off d } who now }, d.size, 0)
def removeE (T : Tr) (n : Nd) (who : ByteArray) : Int :=
  if n.path = 1 then 187
  else if mayB (parOf T.L n) who 2 = false then 182
  else if 0 < cntOf n then 185
  else 0
def removeT (T : Tr) (p : Nat) (who : ByteArray) (now : Nat) : Tr × Int := match look T.L p with
  | none => (T, 180)
  | some n => if removeE T n who ≠ 0 then (T, removeE T n who)
    else ({ T with L := updN (T.L.filter fun n => decide (n.path ≠ p)) n.parent fun d => Nd.touch { d with kids := d.kids.map fun k => if k = p then 0 else k } who now }, 0)
/-- what is asked for, or what is there -/
def orN (a u i : Nat) : Nat := if a = u then i else a
def orS (a i : ByteArray) : ByteArray := if a.size = 0 then i else a
def filledS (s i : St) : St := ⟨orN s.ty 65535 i.ty, orN s.dev 4294967295 i.dev, orN s.qt 255 i.qt, orN s.qv 4294967295 i.qv, orN s.qp 18446744073709551615 i.qp, orN s.mo 4294967295 i.mo, orN s.at_ 4294967295 i.at_, orN s.mt 4294967295 i.mt, orN s.len 18446744073709551615 i.len, orS s.n i.n, orS s.u i.u, orS s.g i.g, orS s.m i.m⟩
def wstatE (T : Tr) (n : Nd) (s : St) (who : ByteArray) : Int :=
  let i := statOf n
  let a := filledS s i
  if ¬ (a.ty = i.ty ∧ a.dev = i.dev ∧ a.qt = i.qt ∧ a.qv = i.qv ∧ a.qp = i.qp ∧ a.at_ = i.at_ ∧ a.u = i.u ∧ a.m = i.m) then 186
  else if a.n ≠ i.n ∧ n.path = 1 then 187
  else if a.n ≠ i.n ∧ mayB (parOf T.L n) who 2 = false then 182
  else if a.n ≠ i.n ∧ nameOk a.n = false then 183
  else if a.n ≠ i.n ∧ kidOf T.L (parOf T.L n) a.n ≠ none then 184
  else if a.len ≠ i.len ∧ n.dir = true then 181
  else if a.len ≠ i.len ∧ mayB n who 2 = false then 182
  else if a.len ≠ i.len ∧ 7168 < a.len then 4
  else if a.mo ≠ i.mo ∧ who ≠ n.uid then 182
  else if a.mo ≠ i.mo ∧ (a.mo ^^^ i.mo) &&& 4294966784 ≠ 0 then 186
  else if a.g ≠ i.g ∧ who ≠ n.uid then 182
  else if a.g ≠ i.g ∧ userOk a.g = false then 183
  else if a.mt ≠ i.mt ∧ who ≠ n.uid then 182
  else 0
/-- what is done to the file itself -/
def wstatN (n : Nd) (s : St) (who : ByteArray) (now : Nat) : Nd :=
  let i := statOf n
  let a := filledS s i
  let m := if a.len ≠ i.len then Nd.touch { n with data := sizedB n.data a.len } who now else n
  { m with name := a.n, perm := a.mo &&& 511, gid := a.g, mtime := if s.mt ≠ 4294967295 then s.mt else m.mtime }
def wstatT (T : Tr) (p : Nat) (s : St) (who : ByteArray) (now : Nat) : Tr × Int := match look T.L p with
  | none => (T, 180)
  | some n => if wstatE T n s who ≠ 0 then (T, wstatE T n s who)
    else ({ T with L := updN (if (filledS s (statOf n)).n ≠ n.name then updN T.L n.parent (fun d => Nd.touch d who now) else T.L) p fun n => wstatN n s who now }, 0)
def fileOf (n : Nd) : St × Nat × ByteArray := (statOf n, n.parent, n.data)
def allT (T : Tr) : List (St × Nat × ByteArray) := T.L.map fileOf
def rootNd (owner : ByteArray) (now : Nat) : Nd := ⟨1, true, 0, 493, owner, owner, owner, now, now, 1, ⟨#[47]⟩, ByteArray.empty, []⟩
def newT (owner : ByteArray) (now : Nat) : Tr := ⟨[rootNd owner now], 1⟩
end Go.Proofs.YtkcnbbjmkkaolaaGreatDoor
namespace Go.Proofs.YtkcnbbjmkkaolaaGreatDoor

/-- numbers and texts in their bounds -/
structure Nd.Ok (n : Nd) : Prop where
  path : n.path < 18446744073709551616
  ver : n.ver < 4294967296
  perm : n.perm < 512
  uid : n.uid.size ≤ 65536
  gid : n.gid.size ≤ 65536
  muid : n.muid.size ≤ 65536
  atime : n.atime < 4294967296
  mtime : n.mtime < 4294967296
  parent : n.parent < 18446744073709551616
  name : n.name.size ≤ 65536
  data : n.data.size ≤ 7168
  kl : n.kids.length ≤ 112
  kids : ∀ k ∈ n.kids, k < 18446744073709551616
/-- all that a tree keeps -/
structure WF (T : Tr) : Prop where
  rise : T.L.Pairwise fun a b => a.path < b.path
  lo : ∀ n ∈ T.L, 1 ≤ n.path ∧ n.path ≤ T.last
  ok : ∀ n ∈ T.L, n.Ok
  len : T.L.length ≤ 1024
  par : ∀ n ∈ T.L, ∃ d, look T.L n.parent = some d
  kid : ∀ d ∈ T.L, ∀ k ∈ d.kids, k ≠ 0 → ∃ n, look T.L k = some n ∧ n.parent = d.path ∧ k ≠ 1
  one : ∀ n ∈ T.L, n.path ≠ 1 → ∀ d, look T.L n.parent = some d → d.kids.count n.path = 1
  root : ∃ r, look T.L 1 = some r ∧ r.parent = 1
  up : ∀ n ∈ T.L, n.path ≠ 1 → n.parent < n.path
/-- the place of a path -/
def idxP (L : List Nd) (p : Nat) : Option Nat := L.findIdx? fun n => n.path == p
theorem look_idx {L : List Nd} {p : Nat} : look L p = (idxP L p).bind fun i => L[i]? := by
  induction L with
  | nil => rfl
  | cons a L ih =>
    unfold look idxP at *
    rw [List.find?_cons, List.findIdx?_cons]
    by_cases h : (a.path == p) = true
    · rw [h]; rfl
    · rw [Bool.not_eq_true] at h
      rw [h]
      simp only [Bool.false_eq_true, if_false]
      rw [ih]
      cases L.findIdx? fun n => n.path == p <;> rfl
theorem idx_some {L : List Nd} {p i : Nat} (h : idxP L p = some i) : ∃ n, L[i]? = some n ∧ n.path = p ∧ look L p = some n ∧ i < L.length := by
  have h1 := List.findIdx?_eq_some_iff_getElem.1 h
  obtain ⟨hl, hp, _⟩ := h1
  refine ⟨L[i], List.getElem?_eq_getElem hl, by simpa using hp, ?_, hl⟩
  rw [look_idx, h]
  exact List.getElem?_eq_getElem hl
theorem idx_none {L : List Nd} {p : Nat} : idxP L p = none ↔ look L p = none := by
  rw [look_idx]
  constructor
  · intro h; rw [h]; rfl
  · intro h
    cases hi : idxP L p with
    | none => rfl
    | some i =>
      rw [hi] at h
      obtain ⟨n, hn, _⟩ := idx_some hi
      rw [show (some i).bind (fun i => L[i]?) = L[i]? from rfl, hn] at h
      cases h
theorem look_some {L : List Nd} {p : Nat} {n : Nd} (h : look L p = some n) : n ∈ L ∧ n.path = p := by
  unfold look at h
  exact ⟨List.mem_of_find?_eq_some h, by simpa using List.find?_some h⟩
theorem look_get {L : List Nd} {p : Nat} {n : Nd} (h : look L p = some n) : ∃ i, idxP L p = some i ∧ L[i]? = some n ∧ i < L.length := by
  rw [look_idx] at h
  cases hi : idxP L p with
  | none => rw [hi] at h; cases h
  | some i =>
    rw [hi] at h
    obtain ⟨m, hm, _, _, hl⟩ := idx_some hi
    exact ⟨i, rfl, h, hl⟩
theorem rise_inj {L : List Nd} (h : L.Pairwise fun a b => a.path < b.path) {i j : Nat} {a b : Nd} (ha : L[i]? = some a) (hb : L[j]? = some b) (he : a.path = b.path) : i = j := by
  obtain ⟨hi, rfl⟩ := List.getElem?_eq_some_iff.1 ha
  obtain ⟨hj, rfl⟩ := List.getElem?_eq_some_iff.1 hb
  rcases Nat.lt_trichotomy i j with h1 | h1 | h1
  · have := List.pairwise_iff_getElem.1 h i j hi hj h1; omega
  · exact h1
  · have := List.pairwise_iff_getElem.1 h j i hj hi h1; omega
theorem look_of {L : List Nd} (h : L.Pairwise fun a b => a.path < b.path) {n : Nd} (hn : n ∈ L) : look L n.path = some n := by
  cases hl : look L n.path with
  | none =>
    unfold look at hl
    rw [List.find?_eq_none] at hl
    exact absurd (by simp) (hl n hn)
  | some m =>
    obtain ⟨hm, hp⟩ := look_some hl
    obtain ⟨i, hi, he⟩ := List.mem_iff_getElem.1 hn
    obtain ⟨j, hj, hf⟩ := List.mem_iff_getElem.1 hm
    have : i = j := rise_inj h (by rw [List.getElem?_eq_getElem hi, he]) (by rw [List.getElem?_eq_getElem hj, hf]) hp.symm
    subst this
    rw [← he, ← hf]
/-- a change of one file: at its place -/
theorem upd_set {L : List Nd} (h : L.Pairwise fun a b => a.path < b.path) {p i : Nat} {n : Nd} (f : Nd → Nd) (hi : idxP L p = some i) (hn : L[i]? = some n) : updN L p f = L.set i (f n) := by
  obtain ⟨m, hm, hp, _, hl⟩ := idx_some hi
  rw [hn] at hm
  injection hm with hm
  subst hm
  apply List.ext_getElem?
  intro j
  unfold updN
  rw [List.getElem?_map, List.getElem?_set]
  by_cases hij : i = j
  · subst hij
    rw [if_pos rfl, if_pos hl, hn]
    show some (if n.path = p then f n else n) = _
    rw [if_pos hp]
  · rw [if_neg hij]
    cases hj : L[j]? with
    | none => rfl
    | some m =>
      show some (if m.path = p then f m else m) = _
      rw [if_neg (fun e => hij (rise_inj h hn hj (by rw [hp, e])))]
theorem upd_get {L : List Nd} {p q : Nat} {f : Nd → Nd} (hf : ∀ n, (f n).path = n.path) : look (updN L p f) q = (look L q).map fun n => if n.path = p then f n else n := by
  unfold look updN
  induction L with
  | nil => rfl
  | cons a L ih =>
    rw [List.map_cons, List.find?_cons, List.find?_cons]
    have : ((if a.path = p then f a else a).path == q) = (a.path == q) := by
      by_cases h : a.path = p
      · rw [if_pos h, hf]
      · rw [if_neg h]
    rw [this]
    cases a.path == q with
    | true => rfl
    | false => exact ih
theorem kidGo_some {L : List Nd} {name : ByteArray} : ∀ {l : List Nat} {n : Nd}, kidGo L name l = some n → n.name = name ∧ n ∈ L ∧ n.path ∈ l := by
  intro l
  induction l with
  | nil => intro n h; cases h
  | cons k r ih =>
    intro n h
    unfold kidGo at h
    cases hk : look L k with
    | none =>
      rw [hk] at h
      obtain ⟨a, b, c⟩ := ih h
      exact ⟨a, b, List.mem_cons_of_mem _ c⟩
    | some m =>
      rw [hk] at h
      simp only at h
      by_cases he : m.name = name
      · rw [if_pos he] at h
        injection h with h
        subst h
        obtain ⟨h1, h2⟩ := look_some hk
        exact ⟨he, h1, by rw [h2]; exact List.mem_cons_self ..⟩
      · rw [if_neg he] at h
        obtain ⟨a, b, c⟩ := ih h
        exact ⟨a, b, List.mem_cons_of_mem _ c⟩
end Go.Proofs.YtkcnbbjmkkaolaaGreatDoor
namespace Go.Proofs.YtkcnbbjmkkaolaaGreatDoor
open Go.RowKit

section
variable {α : Type} (cs : α → List Value) (sz : Nat)
/-- a slice of records that reads as l; its block meets P -/
def RecsAt (w : World) (P : Nat → Prop) (v : Value) (l : List α) : Prop :=
  (l = [] ∧ ∃ a c, v = .slice a 0 c) ∨ ∃ g off cap, v = .slice (some ⟨g, off, none⟩) l.length cap ∧ P g ∧ g < w.heap.size ∧ l.length ≤ cap ∧
    ∀ j s, l[j]? = some s → ∀ i u, (cs s)[i]? = some u → w.cell? ⟨g, off + j * sz + i, none⟩ = some u
def flatR (l : List α) : List Value := l.flatMap cs
variable {cs sz}
theorem RecsAt.mod {w w' : World} {P S : Nat → Prop} {v : Value} {l : List α} (h : RecsAt cs sz w P v l) (hm : Mod S w w') (hp : ∀ g, P g → g < w.heap.size → ¬ S g) : RecsAt cs sz w' P v l := by
  rcases h with h | ⟨g, off, cap, h1, h2, h3, h4, h5⟩
  · exact .inl h
  · exact .inr ⟨g, off, cap, h1, h2, Nat.lt_of_lt_of_le h3 hm.size, h4, fun j s hj i u hu => (World.cell?_of_block (hm.block g h3 (hp g h2 h3))).trans (h5 j s hj i u hu)⟩
theorem RecsAt.imp {w : World} {P Q : Nat → Prop} {v : Value} {l : List α} (h : RecsAt cs sz w P v l) (hp : ∀ g, P g → Q g) : RecsAt cs sz w Q v l := by
  rcases h with h | ⟨g, off, cap, h1, h2, h3⟩
  · exact .inl h
  · exact .inr ⟨g, off, cap, h1, hp g h2, h3⟩
theorem RecsAt.nil (w : World) (P : Nat → Prop) : RecsAt cs sz w P (.slice none 0 0) [] := .inl ⟨rfl, _, _, rfl⟩
theorem RecsAt.form {w : World} {P : Nat → Prop} {v : Value} {l : List α} (h : RecsAt cs sz w P v l) : ∃ a cap, v = .slice a l.length cap ∧ l.length ≤ cap ∧
    ∀ j s, l[j]? = some s → ∃ g off, a = some ⟨g, off, none⟩ ∧ P g ∧ g < w.heap.size ∧ ∀ i u, (cs s)[i]? = some u → w.cell? ⟨g, off + j * sz + i, none⟩ = some u := by
  rcases h with ⟨rfl, a, c, rfl⟩ | ⟨g, off, cap, h1, h2, h3, h4, h5⟩
  · exact ⟨a, c, rfl, Nat.zero_le _, fun j u hj => by simp at hj⟩
  · exact ⟨_, cap, h1, h4, fun j s hj => ⟨g, off, rfl, h2, h3, h5 j s hj⟩⟩
theorem flatR_append (l m : List α) : flatR cs (l ++ m) = flatR cs l ++ flatR cs m := List.flatMap_append
theorem flatR_length (hl : ∀ a, (cs a).length = sz) (l : List α) : (flatR cs l).length = l.length * sz := by
  induction l with
  | nil => rw [List.length_nil, Nat.zero_mul]; rfl
  | cons a l ih => unfold flatR at *; rw [List.flatMap_cons, List.length_append, ih, List.length_cons, hl, Nat.add_mul]; omega
theorem flatR_get (hl : ∀ a, (cs a).length = sz) (L : List α) : ∀ j s, L[j]? = some s → ∀ i, i < sz → (flatR cs L)[j * sz + i]? = (cs s)[i]? := by
  induction L with
  | nil => intro j s h; cases h
  | cons a L ih =>
    intro j s h i hi
    unfold flatR at *
    rw [List.flatMap_cons]
    cases j with
    | zero =>
      simp at h
      subst h
      rw [Nat.zero_mul, Nat.zero_add, List.getElem?_append_left (by rw [hl]; exact hi)]
    | succ j =>
      rw [List.getElem?_append_right (by rw [hl, Nat.add_mul]; omega), ← ih j s h i hi, hl]
      congr 1
      rw [Nat.add_mul]
      omega
theorem OwnA.recs (h0 : 0 < sz) (hl : ∀ a, (cs a).length = sz) {w : World} {base n : Nat} {v : Value} {l : List α} (h : OwnA w base sz v n (flatR cs l)) : RecsAt cs sz w (base ≤ ·) v l := by
  obtain ⟨h1, h2⟩ := h
  rw [flatR_length hl] at h1
  obtain rfl : l.length = n := Nat.eq_of_mul_eq_mul_right h0 h1
  rcases h2 with ⟨h2, h3⟩ | ⟨g, cap, hv, hg, hll, hn, _, _, hc⟩
  · exact .inl ⟨List.eq_nil_of_length_eq_zero h3, _, _, h2⟩
  · refine .inr ⟨g, 0, cap, hv, hg, hll, hn, fun j s hj i u hu => ?_⟩
    have hi : i < sz := by rw [← hl s]; exact (List.getElem?_eq_some_iff.1 hu).1
    rw [Nat.zero_add]
    exact hc (j * sz + i) u ((flatR_get hl l j s hj i hi).trans hu)
end
theorem mod_putR {A : World} {k : Nat} (o' : Obj) : Mod (· = k) A (A.putObj k o') := by
  have hg := grownBy_putObj' A k o'
  exact ⟨hg.os, hg.tape, hg.output, hg.size, fun j hj hs => hg.block j hj (fun e => hs (by injection e))⟩
theorem setCell_idR {w : World} {b i : Nat} {cs : Array Value} {e : TypeId} {v : Value} (h : w.heap[b]? = some (.cells cs e (0, 0))) (hv : cs[i]? = some v) : w.setCell ⟨b, i, none⟩ v = w := by
  have hi : i < cs.size := (Array.getElem?_eq_some_iff.1 hv).1
  have hcs : cs.setIfInBounds i v = cs := by
    obtain ⟨_, h2⟩ := Array.getElem?_eq_some_iff.1 hv
    rw [Array.setIfInBounds, dif_pos hi, ← h2, Array.set_getElem_self]
  have hh : (w.setCell ⟨b, i, none⟩ v).heap = w.heap := by
    apply Array.ext_getElem?
    intro j
    by_cases hj : j = b
    · subst hj
      rw [heap_set h i v, hcs, h]
    · rw [Below.heap_setCell _ _ _ _ hj]
  show { w with heap := (w.setCell ⟨b, i, none⟩ v).heap } = w
  rw [hh]
end Go.Proofs.YtkcnbbjmkkaolaaGreatDoor
namespace Go.Proofs.YtkcnbbjmkkaolaaGreatDoor
open Go.RowKit

theorem mod_setRow (w : World) (g : Nat) (cs : Array Value) : Mod (· = g) w (w.setRow g cs) :=
  ⟨rfl, rfl, rfl, by show w.heap.size ≤ (w.heap.modify g _).size; rw [Array.size_modify]; exact Nat.le_refl _, fun k _ hne => by
    show (w.heap.modify g _)[k]? = _
    rw [Array.getElem?_modify, if_neg (fun e => hne e.symm)]⟩
end Go.Proofs.YtkcnbbjmkkaolaaGreatDoor
namespace Go.Proofs.YtkcnbbjmkkaolaaGreatDoor
open Go.RowKit

/-- a whole struct stored, as an operation -/
theorem wpl_store_row {P : Program} {w : World} {ops : Array Oper} {rest : List Oper} {op : Oper} {a : Act} {Q : Exit → Act → World → Prop} (hgd : op.guard = none) (ty : TypeId) (x y : Operand) (ho : op.op = .store ty x y) (hd : op.dst = none)
    (g : Nat) (vs : List Value) (hx : a.eval x = .pointer (some ⟨g, 0, none⟩)) (hy : a.eval y = .agg vs.toArray) (T : TypeId) (cur : Array Value) (hg : w.heap[g]? = some (.cells cur T (0, 0))) (hl : vs.length = cur.size) (h1 : ∀ v ∈ vs, v.oneCell' = true) (hi : (P.info? ty).map (·.size) = some vs.length)
    (h : ∀ w', w'.heap[g]? = some (.cells vs.toArray T (0, 0)) → Mod (· = g) w w' → wpList P ops Q rest a w') : wpList P ops Q (op :: rest) a w := by
  refine wpList_plain hgd fun K hK => wp_store_row ty x y ho g vs.toArray hx hy T cur hg (by simpa using hi) (by simpa using hl.symm) (by rw [Array.all_eq_true_iff_forall_mem]; intro v hv; exact h1 v (by simpa using hv)) ?_
  refine hK _ _ ?_
  rw [hd]
  exact h _ (setRow_heap w g cur _ T _ hg) (mod_setRow w g _)
end Go.Proofs.YtkcnbbjmkkaolaaGreatDoor
