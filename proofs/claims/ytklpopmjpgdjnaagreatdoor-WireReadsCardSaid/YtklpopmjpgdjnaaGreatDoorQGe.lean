/- Maps that a call makes, as plain functions of their keys.
   Maps that a call owns, with their size: store, delete, len, range.
   Package wire's fields: the table of types. -/
import Derived.Test.YtklpopmjpgdjnaaGreatDoorQGa
import Derived.Maps.OwnSet
import Derived.Maps.RangeWalk
import Derived.Test.YtklpopmjpgdjnaaGreatDoorQDone
set_option linter.unusedVariables false
set_option linter.unusedSimpArgs false
namespace Go.Proofs.YtklpopmjpgdjnaaGreatDoor
open Go.RowKit

def heldR (v : Value) : Option (DataW Value × List MemPlace) := some (.held v, [])
/-- block b is a map of at most n entries, that has f at its keys -/
def MapF {κ : Type} (P : Program) (k : TypeId) (enc : κ → Lit) (w : World) (b n : Nat) (f : κ → Option Value) : Prop :=
  ∃ D : DataW Value, w.ownsMap P k heldR b n D ∧ ∀ x, Maps.has D (enc x) = (f x).isSome ∧ ∀ z, D.atKey (enc x) z = match f x with | some v => .held v | none => z

section
variable {κ : Type} {P : Program} {k e t : TypeId} {enc : κ → Lit} {w w' : World} {b n : Nat} {f : κ → Option Value}
theorem MapF.made (w : World) (P : Program) (k : TypeId) (enc : κ → Lit) : MapF P k enc (w.alloc (.map #[] 0)) w.heap.size 0 (fun _ => none) :=
  ⟨_, World.ownsMap_made w P k heldR, fun _ => ⟨rfl, fun _ => rfl⟩⟩
theorem MapF.obj (h : MapF P k enc w b n f) : ∃ es c, w.heap[b]? = some (.map es c) := by
  obtain ⟨D, ⟨es, c, hb, _⟩, _⟩ := h
  exact ⟨es, c, hb⟩
theorem MapF.same (h : MapF P k enc w b n f) (hk : w'.heap[b]? = w.heap[b]?) : MapF P k enc w' b n f := by
  obtain ⟨D, ⟨es, c, hb, r⟩, hf⟩ := h
  exact ⟨D, ⟨es, c, hk.trans hb, r⟩, hf⟩
theorem MapF.lt (h : MapF P k enc w b n f) : b < w.heap.size := by
  obtain ⟨es, c, hb⟩ := h.obj
  exact lt_of hb
theorem MapF.mod {S : Nat → Prop} (h : MapF P k enc w b n f) (hm : Mod S w w') (hs : ¬ S b) : MapF P k enc w' b n f := h.same (hm.block b h.lt hs)
theorem MapF.congr {g : κ → Option Value} (h : MapF P k enc w b n f) (hg : ∀ x, g x = f x) : MapF P k enc w b n g := by
  obtain ⟨D, ho, hf⟩ := h
  exact ⟨D, ho, fun x => by rw [hg x]; exact hf x⟩
theorem MapF.look_ok (h : MapF P k enc w b n f) (K : Maps.Keyed P k) (ht : P.underlying t = some (.map k e)) {z : Value} (hz : (zeroValue e).run P w = .ok z w) {key : Value} {x : κ} (hkey : keyOf P k key = some (enc x)) :
    (Instr.lookup t (.map (some b)) key true).run P w = .ok (.tuple #[(f x).getD z, .bool (f x).isSome]) w := by
  obtain ⟨D, ho, hf⟩ := h
  obtain ⟨v, ps, hrun, hv⟩ := ho.look_ok K ht hz (zd := .held z) (zp := []) rfl hkey
  rw [hrun, (hf x).1]
  rw [(hf x).2] at hv
  have : v = (f x).getD z := by
    unfold heldR at hv
    cases hfx : f x with
    | none => rw [hfx] at hv; cases hv; rfl
    | some u => rw [hfx] at hv; cases hv; rfl
  rw [this]
theorem MapF.look (h : MapF P k enc w b n f) (K : Maps.Keyed P k) (ht : P.underlying t = some (.map k e)) {z : Value} (hz : (zeroValue e).run P w = .ok z w) {key : Value} {x : κ} (hkey : keyOf P k key = some (enc x)) :
    (Instr.lookup t (.map (some b)) key false).run P w = .ok ((f x).getD z) w := by
  obtain ⟨D, ho, hf⟩ := h
  obtain ⟨v, ps, hrun, hv⟩ := ho.lookup K ht hz (zd := .held z) (zp := []) rfl hkey
  rw [hrun]
  rw [(hf x).2] at hv
  have : v = (f x).getD z := by
    unfold heldR at hv
    cases hfx : f x with
    | none => rw [hfx] at hv; cases hv; rfl
    | some u => rw [hfx] at hv; cases hv; rfl
  rw [this]
theorem MapF.store [DecidableEq κ] (h : MapF P k enc w b n f) (hinj : ∀ x y, enc x = enc y → x = y) (K : Maps.Keyed P k) (ht : P.underlying t = some (.map k e)) (hn : n < maxLen) {key v : Value} {x : κ} (hkey : keyOf P k key = some (enc x)) :
    ∃ w', (Instr.mapUpdate t (.map (some b)) key v).run P w = .ok () w' ∧ MapF P k enc w' b (n + 1) (fun y => if y = x then some v else f y) ∧ Mod (· = b) w w' := by
  obtain ⟨D, ho, hf⟩ := h
  obtain ⟨w', hrun, ho', hg⟩ := ho.update K ht hn hkey (val := v) (d := .held v) (ps := []) rfl
  refine ⟨w', hrun, ⟨_, ho', fun y => ?_⟩, ⟨hg.os, hg.tape, hg.output, hg.size, fun j hj hs => hg.block j hj (fun e => hs (by injection e))⟩⟩
  by_cases hy : y = x
  · subst hy
    have hv : (fun z => if z = y then some v else f z) y = some v := if_pos rfl
    rw [hv]
    exact ⟨Maps.has_put_same ho.isMap (K.key hkey) _, fun z => Maps.atKey_put_same ho.isMap (K.key hkey) _ z⟩
  · have hv : (fun z => if z = x then some v else f z) y = f y := if_neg hy
    rw [hv, Maps.has_put_other (fun e => hy (hinj _ _ e))]
    exact ⟨(hf y).1, fun z => by rw [Maps.atKey_put_other (fun e => hy (hinj _ _ e))]; exact (hf y).2 z⟩
end
def encStr (s : ByteArray) : Lit := .string s.data.toList
theorem encStr_inj (x y : ByteArray) (h : encStr x = encStr y) : x = y := by
  unfold encStr at h
  injection h with h
  exact ByteArray.ext (Array.ext' h)
def encU64 (p : Nat) : Lit := .int .u64 p
theorem encU64_inj (x y : Nat) (h : encU64 x = encU64 y) : x = y := by
  unfold encU64 at h
  injection h with _ h
  omega
theorem key_str {P : Program} {k : TypeId} (hk : P.underlying k = some .string) {s : ByteArray} (hs : s.size ≤ maxLen) : keyOf P k (.string s) = some (encStr s) := WideMaps.keyOf_string_mk hk hs
theorem key_u64 {P : Program} {k : TypeId} (hk : P.underlying k = some (.int .u64)) {p : Nat} (hp : p < 18446744073709551616) : keyOf P k (.int .u64 p) = some (encU64 p) := by
  refine Maps.keyOf_int_mk hk ?_
  show (decide ((0 : Int) ≤ p) && decide ((p : Int) ≤ 18446744073709551615)) = true
  simp
  omega
end Go.Proofs.YtklpopmjpgdjnaaGreatDoor
namespace Go.Proofs.YtklpopmjpgdjnaaGreatDoor
open Go.RowKit

def MapS {κ : Type} (P : Program) (k : TypeId) (enc : κ → Lit) (w : World) (b n : Nat) (f : κ → Option Value) (s : Nat) : Prop :=
  ∃ D : DataW Value, w.ownsMap P k heldR b n D ∧ (∀ x, Maps.has D (enc x) = (f x).isSome ∧ ∀ z, D.atKey (enc x) z = match f x with | some v => .held v | none => z) ∧ Maps.size D = s
section
variable {κ : Type} {P : Program} {k e t : TypeId} {enc : κ → Lit} {w w' : World} {b n s : Nat} {f : κ → Option Value}
theorem MapS.mapF (h : MapS P k enc w b n f s) : MapF P k enc w b n f := by
  obtain ⟨D, h1, h2, _⟩ := h
  exact ⟨D, h1, h2⟩
theorem MapS.made (w : World) (P : Program) (k : TypeId) (enc : κ → Lit) : MapS P k enc (w.alloc (.map #[] 0)) w.heap.size 0 (fun _ => none) 0 :=
  ⟨_, World.ownsMap_made w P k heldR, fun _ => ⟨rfl, fun _ => rfl⟩, rfl⟩
theorem MapS.lt (h : MapS P k enc w b n f s) : b < w.heap.size := h.mapF.lt
theorem MapS.same (h : MapS P k enc w b n f s) (hk : w'.heap[b]? = w.heap[b]?) : MapS P k enc w' b n f s := by
  obtain ⟨D, ⟨es, c, hb, r⟩, hf⟩ := h
  exact ⟨D, ⟨es, c, hk.trans hb, r⟩, hf⟩
theorem MapS.mod {S : Nat → Prop} (h : MapS P k enc w b n f s) (hm : Mod S w w') (hs : ¬ S b) : MapS P k enc w' b n f s := h.same (hm.block b h.lt hs)
theorem MapS.congr {g : κ → Option Value} {s' : Nat} (h : MapS P k enc w b n f s) (hg : ∀ x, g x = f x) (hs : s' = s) : MapS P k enc w b n g s' := by
  obtain ⟨D, ho, hf, hz⟩ := h
  exact ⟨D, ho, fun x => by rw [hg x]; exact hf x, by rw [hs]; exact hz⟩
theorem MapS.len (h : MapS P k enc w b n f s) (ht : P.underlying t = some (.map k e)) (ty : TypeId) : (Builtin.len_ #[t] ty #[.map (some b)]).run P w = .ok (.int .i64 s) w := by
  obtain ⟨D, ho, _, hz⟩ := h
  rw [ho.len ht ty, hz]
theorem MapS.le (h : MapS P k enc w b n f s) : s ≤ n := by
  obtain ⟨D, ho, _, hz⟩ := h
  rw [← hz]; exact ho.size_le
theorem mod_turned {w w' : World} {b : Nat} (h : w.mapTurned w' b) : Mod (· = b) w w' := by
  have hg := h.grown
  exact ⟨hg.os, hg.tape, hg.output, hg.size, fun j hj hs => hg.block j hj (fun e => hs (by injection e))⟩
theorem MapS.store [DecidableEq κ] (h : MapS P k enc w b n f s) (hinj : ∀ x y, enc x = enc y → x = y) (K : Maps.Keyed P k) (ht : P.underlying t = some (.map k e)) (hn : n < maxLen) {key v : Value} {x : κ} (hkey : keyOf P k key = some (enc x)) :
    ∃ w', (Instr.mapUpdate t (.map (some b)) key v).run P w = .ok () w' ∧ MapS P k enc w' b (n + 1) (fun y => if y = x then some v else f y) (if (f x).isSome = true then s else s + 1) ∧ Mod (· = b) w w' := by
  obtain ⟨D, ho, hf, hz⟩ := h
  obtain ⟨w', hrun, ho', hg⟩ := ho.store K ht hn hkey (val := v) (d := .held v) (ps := []) rfl
  refine ⟨w', hrun, ⟨_, ho', fun y => ?_, ?_⟩, mod_turned hg⟩
  · by_cases hy : y = x
    · subst hy
      have hv : (fun z => if z = y then some v else f z) y = some v := if_pos rfl
      rw [hv]
      exact ⟨Maps.has_put_same ho.isMap (K.key hkey) _, fun z => Maps.atKey_put_same ho.isMap (K.key hkey) _ z⟩
    · have hv : (fun z => if z = x then some v else f z) y = f y := if_neg hy
      rw [hv, Maps.has_put_other (fun e => hy (hinj _ _ e))]
      exact ⟨(hf y).1, fun z => by rw [Maps.atKey_put_other (fun e => hy (hinj _ _ e))]; exact (hf y).2 z⟩
  · rw [Maps.size_put (ho.tidy K), (hf x).1, hz]
theorem MapS.drop [DecidableEq κ] (h : MapS P k enc w b n f s) (hinj : ∀ x y, enc x = enc y → x = y) (K : Maps.Keyed P k) (ht : P.underlying t = some (.map k e)) {key : Value} {x : κ} (hkey : keyOf P k key = some (enc x)) (ty : TypeId) :
    ∃ w', (Builtin.delete_ #[t, k] ty #[.map (some b), key]).run P w = .ok (.tuple #[]) w' ∧ MapS P k enc w' b n (fun y => if y = x then none else f y) (if (f x).isSome = true then s - 1 else s) ∧ Mod (· = b) w w' := by
  obtain ⟨D, ho, hf, hz⟩ := h
  obtain ⟨w', hrun, ho', hg⟩ := ho.drop K ht hkey ty
  refine ⟨w', hrun, ⟨_, ho', fun y => ?_, ?_⟩, mod_turned hg⟩
  · by_cases hy : y = x
    · subst hy
      have hv : (fun z => if z = y then none else f z) y = none := if_pos rfl
      rw [hv]
      exact ⟨Maps.has_del_same, fun z => Maps.atKey_del_same z⟩
    · have hv : (fun z => if z = x then none else f z) y = f y := if_neg hy
      rw [hv, Maps.has_del_other (fun e => hy (hinj _ _ e))]
      exact ⟨(hf y).1, fun z => by rw [Maps.atKey_del_other (fun e => hy (hinj _ _ e))]; exact (hf y).2 z⟩
  · have := Maps.size_del (ho.tidy K) (k := enc x)
    rw [(hf x).1, hz] at this
    split
    · rename_i h; rw [if_pos h] at this; omega
    · rename_i h; rw [if_neg h] at this; omega
end
def encU32 (p : Nat) : Lit := .int .u32 p
theorem encU32_inj (x y : Nat) (h : encU32 x = encU32 y) : x = y := by
  unfold encU32 at h
  injection h with _ h
  omega
theorem key_u32 {P : Program} {k : TypeId} (hk : P.underlying k = some (.int .u32)) {p : Nat} (hp : p < 4294967296) : keyOf P k (.int .u32 p) = some (encU32 p) := by
  refine Maps.keyOf_int_mk hk ?_
  show (decide ((0 : Int) ≤ p) && decide ((p : Int) ≤ 4294967295)) = true
  simp
  omega
end Go.Proofs.YtklpopmjpgdjnaaGreatDoor
namespace Go.Proofs.YtklpopmjpgdjnaaGreatDoor
open Go.RowKit

def encU8 (p : Nat) : Lit := .int .u8 p
theorem encU8_inj (x y : Nat) (h : encU8 x = encU8 y) : x = y := by
  unfold encU8 at h
  injection h with _ h
  omega
theorem key_u8 {p : Nat} (hp : p < 256) : keyOf Tryz.prog 5 (.int .u8 p) = some (encU8 p) := by
  refine Maps.keyOf_int_mk Tryz.underlying5 ?_
  show (decide ((0 : Int) ≤ p) && decide ((p : Int) ≤ 255)) = true
  simp
  omega
theorem lawU8 : Maps.Keyed Tryz.prog 5 := Maps.int_keyed Tryz.underlying5
/-- the parts of a row of field functions -/
def partsV (l : List Fld) : Array (Nat × Value) := (l.mapIdx fun i f => (i, Value.func (.func (fnOf f)) #[] #[])).toArray
theorem build0  (w : World) : (Instr.buildSlice 58 (([] : List Fld)).length (partsV ([] : List Fld))).run Tryz.prog w = .ok (.slice (some ⟨w.heap.size, 0, none⟩) (([] : List Fld)).length (([] : List Fld)).length) (w.alloc (.cells (fnV ([] : List Fld)).toArray 94)) := by
  simp [Instr.buildSlice, go_sem, partsV, fnV]
theorem build1 (a : Fld) (w : World) : (Instr.buildSlice 58 ([a]).length (partsV [a])).run Tryz.prog w = .ok (.slice (some ⟨w.heap.size, 0, none⟩) ([a]).length ([a]).length) (w.alloc (.cells (fnV [a]).toArray 94)) := by
  simp [Instr.buildSlice, go_sem, partsV, fnV]
theorem build2 (a b : Fld) (w : World) : (Instr.buildSlice 58 ([a, b]).length (partsV [a, b])).run Tryz.prog w = .ok (.slice (some ⟨w.heap.size, 0, none⟩) ([a, b]).length ([a, b]).length) (w.alloc (.cells (fnV [a, b]).toArray 94)) := by
  simp [Instr.buildSlice, go_sem, partsV, fnV]
theorem build3 (a b c : Fld) (w : World) : (Instr.buildSlice 58 ([a, b, c]).length (partsV [a, b, c])).run Tryz.prog w = .ok (.slice (some ⟨w.heap.size, 0, none⟩) ([a, b, c]).length ([a, b, c]).length) (w.alloc (.cells (fnV [a, b, c]).toArray 94)) := by
  simp [Instr.buildSlice, go_sem, partsV, fnV]
theorem build4 (a b c d : Fld) (w : World) : (Instr.buildSlice 58 ([a, b, c, d]).length (partsV [a, b, c, d])).run Tryz.prog w = .ok (.slice (some ⟨w.heap.size, 0, none⟩) ([a, b, c, d]).length ([a, b, c, d]).length) (w.alloc (.cells (fnV [a, b, c, d]).toArray 94)) := by
  simp [Instr.buildSlice, go_sem, partsV, fnV]
/-- the table under way: what it holds so far; w0: the world ahead -/
structure FS (w0 w : World) (mb : Nat) (L : List (Nat × List Fld)) : Prop where
  map : ∃ f : Nat → Option Value, MapS Tryz.prog 5 encU8 w mb L.length f L.length ∧ (∀ p ∈ L, ∃ v, f p.1 = some v ∧ SlAt w (mb < ·) v (fnV p.2)) ∧ ∀ t, t ∉ L.map Prod.fst → f t = none
  m : Mod (fun _ => False) w0 w
  le : w0.heap.size ≤ mb
  lt : mb < w.heap.size
theorem FS.step {w0 w : World} {mb t : Nat} {L : List (Nat × List Fld)} {l : List Fld} (h : FS w0 w mb L) (hL : L.length < 1000) (ht : t < 256) (hn : t ∉ L.map Prod.fst) :
    ∃ w', (Instr.mapUpdate 60 (.map (some mb)) (.int .u8 t) (.slice (some ⟨w.heap.size, 0, none⟩) l.length l.length)).run Tryz.prog (w.alloc (.cells (fnV l).toArray 94)) = .ok () w' ∧ FS w0 w' mb (L ++ [(t, l)]) := by
  obtain ⟨⟨f, hf, hv, h0⟩, hm, hle, hlt⟩ := h
  have ma := (Mod.refl (fun _ => False) w).alloc (.cells (fnV l).toArray 94)
  have hf2 := hf.mod ma (fun x => x)
  obtain ⟨w', h1, h2, h3⟩ := hf2.store encU8_inj lawU8 Tryz.underlying60 (by unfold maxLen; omega) (v := .slice (some ⟨w.heap.size, 0, none⟩) l.length l.length) (key_u8 ht)
  refine ⟨w', h1, ⟨(fun y => if y = t then some (Value.slice (some ⟨w.heap.size, 0, none⟩) l.length l.length) else f y), ?_, fun p hp => ?_, fun y hy => ?_⟩, (hm.trans ma).trans' h3 fun k hk e => by omega, hle, Nat.lt_of_lt_of_le hlt (Nat.le_trans ma.size h3.size)⟩
  · rw [List.length_append, List.length_singleton]
    have := h2
    rw [h0 t hn] at this
    exact this
  · rcases List.mem_append.1 hp with hp | hp
    · obtain ⟨v, e1, e2⟩ := hv p hp
      refine ⟨v, ?_, (e2.mod ma fun _ _ _ x => x).mod h3 fun g hg _ e => by omega⟩
      show (if p.1 = t then _ else f p.1) = _
      rw [if_neg (fun e => hn (by rw [← e]; exact List.mem_map_of_mem hp))]
      exact e1
    · rw [List.mem_singleton] at hp
      subst hp
      refine ⟨_, if_pos rfl, ?_⟩
      have hb : w'.heap[w.heap.size]? = some (.cells (fnV l).toArray 94 (0, 0)) := (h3.block _ (by simp) (fun e => by omega)).trans (new_at w _)
      cases l with
      | nil => exact .inl ⟨rfl, _, _, rfl⟩
      | cons x l => exact .inr ⟨w.heap.size, 0, (x :: l).length, by rw [fnV_length], hlt, lt_of hb, by rw [fnV_length]; exact Nat.le_refl _, fun j u hj => by rw [Nat.zero_add, cell_of hb, List.getElem?_toArray]; exact hj⟩
  · rw [List.map_append, List.mem_append, not_or] at hy
    show (if y = t then _ else f y) = _
    rw [if_neg (fun e => hy.2 (by simp [e]))]
    exact h0 y hy.1
/-- the frame of 'fields' -/
structure Ac (a : Act) (mb : Nat) : Prop where
  e1 : a.eval (.tmp 1) = .map (some mb)
  sz : a.tmps.size = 30
  df : a.defers = []
theorem put_same (a : Act) (j : Nat) (v : Value) (h : j < a.tmps.size) : (a.put (some j) v).eval (.tmp j) = v := by
  simp [Act.put, Act.eval, Array.getD_eq_getD_getElem?, h]
theorem put_other (a : Act) (j k : Nat) (v : Value) (h : j ≠ k) : (a.put (some j) v).eval (.tmp k) = a.eval (.tmp k) := by
  simp [Act.put, Act.eval, Array.getD_eq_getD_getElem?, Array.getElem?_setIfInBounds, h]
theorem Ac.put {a : Act} {mb : Nat} (h : Ac a mb) (j : Nat) (v : Value) (hj : j ≠ 1) : Ac (a.put (some j) v) mb :=
  ⟨(put_other a j 1 v hj).trans h.e1, by rw [← h.sz]; simp [Act.put], h.df⟩
set_option maxRecDepth 20000 in
theorem wpl_pair {w0 w : World} {ops : Array Oper} {rest : List Oper} {o1 o2 : Oper} {a : Act} {Q : Exit → Act → World → Prop} {mb : Nat} {L : List (Nat × List Fld)} (t : Nat) (l : List Fld) (j : Nat) (parts : Array (Nat × Operand)) (hF : FS w0 w mb L) (hA : Ac a mb) (hL : L.length < 1000)
    (hb : ∀ w, (Instr.buildSlice 58 l.length (partsV l)).run Tryz.prog w = .ok (.slice (some ⟨w.heap.size, 0, none⟩) l.length l.length) (w.alloc (.cells (fnV l).toArray 94)))
    (g1 : o1.guard = none) (g2 : o2.guard = none) (h1 : o1.op = .buildSlice 58 l.length parts) (d1 : o1.dst = some j) (hp : ∀ b : Act, (parts.map fun (i, x) => (i, b.eval x)) = partsV l)
    (h2 : o2.op = .insert 60 (.tmp 1) (.const (.int .u8 t)) (.tmp j)) (d2 : o2.dst = none) (hj1 : j ≠ 1) (hj : j < 30) (ht : t < 256) (hn : t ∉ L.map Prod.fst)
    (h : ∀ w' a', Ac a' mb → FS w0 w' mb (L ++ [(t, l)]) → wpList Tryz.prog ops Q rest a' w') : wpList Tryz.prog ops Q (o1 :: o2 :: rest) a w := by
  obtain ⟨w', hr, hF'⟩ := hF.step (l := l) hL ht hn
  refine wpList_plain g1 fun K hK => ?_
  unfold Oper.wp execOp
  simp only [h1, hp, Sem.run_bind, hb, Result.andThen_ok, Sem.run_pure]
  refine hK _ _ ?_
  refine wpList_plain g2 fun K hK => ?_
  unfold Oper.wp execOp
  have hcs : ∀ (b : Act) (v : Value), b.eval (.const v) = v := fun _ _ => rfl
  rw [d1]
  have hm := (hA.put j (.slice (some ⟨w.heap.size, 0, none⟩) l.length l.length) hj1).e1
  have hs := put_same a j (.slice (some ⟨w.heap.size, 0, none⟩) l.length l.length) (by rw [hA.sz]; exact hj)
  simp only [h2, hm, hs, hcs, Sem.run_bind, hr, Result.andThen_ok, Sem.run_pure]
  refine hK _ _ ?_
  rw [d2]
  exact h w' _ (hA.put j _ hj1) hF'
def fldTab : List (Nat × List Fld) :=
  [(100, [.msize, .version]),
   (101, [.msize, .version]),
   (102, [.afid, .uname, .aname]),
   (103, [.qid]),
   (104, [.fid, .afid, .uname, .aname]),
   (105, [.qid]),
   (107, [.ename]),
   (108, [.oldtag]),
   (109, []),
   (110, [.fid, .newfid, .names]),
   (111, [.qids]),
   (112, [.fid, .mode]),
   (113, [.qid, .iounit]),
   (114, [.fid, .name, .perm, .mode]),
   (115, [.qid, .iounit]),
   (116, [.fid, .offset, .count]),
   (117, [.data]),
   (118, [.fid, .offset, .data]),
   (119, [.count]),
   (120, [.fid]),
   (121, []),
   (122, [.fid]),
   (123, []),
   (124, [.fid]),
   (125, [.stat]),
   (126, [.fid, .stat]),
   (127, [])]
set_option maxHeartbeats 4000000 in
set_option maxRecDepth 100000 in
theorem fields_any (w : World) : Calls Tryz.prog 26 #[] w fun e w' => ∃ mb, e = .returned (.map (some mb)) ∧ FS w w' mb fldTab := by
  have hF : FS w (w.alloc (.map #[] 0)) w.heap.size [] :=
    ⟨⟨fun _ => none, MapS.made w _ _ _, fun p hp => (by cases hp), fun _ _ => rfl⟩, (Mod.refl _ _).alloc _, Nat.le_refl _, by simp⟩
  go_enter Tryz.func26, Tryz.ntmps26
  go_upto_region 1 with (fail)
  refine wp_region_lit ?_
  refine wpList_plain rfl fun K hK => ?_
  go_simp
  refine hK _ _ ?_
  clear hK K
  change wpList _ _ _ _ _ (w.alloc (.map #[] 0))
  refine wpl_pair 100 [.msize, .version] 2 #[(0, Operand.func 52), (1, Operand.func 53)] hF ⟨rfl, rfl, rfl⟩ ?hL (fun U => build2 .msize .version U) rfl rfl rfl rfl ?hp rfl rfl (by decide) (by decide) (by decide) ?hn ?_
  case hL => decide
  case hp => intro b; simp [partsV, fnOf, Act.eval]
  case hn => decide
  clear hF
  intro w2 a2 hA hF
  refine wpl_pair 101 [.msize, .version] 3 #[(0, Operand.func 52), (1, Operand.func 53)] hF hA ?hL (fun U => build2 .msize .version U) rfl rfl rfl rfl ?hp rfl rfl (by decide) (by decide) (by decide) ?hn ?_
  case hL => decide
  case hp => intro b; simp [partsV, fnOf, Act.eval]
  case hn => decide
  clear hF hA
  intro w3 a3 hA hF
  refine wpl_pair 102 [.afid, .uname, .aname] 4 #[(0, Operand.func 54), (1, Operand.func 55), (2, Operand.func 56)] hF hA ?hL (fun U => build3 .afid .uname .aname U) rfl rfl rfl rfl ?hp rfl rfl (by decide) (by decide) (by decide) ?hn ?_
  case hL => decide
  case hp => intro b; simp [partsV, fnOf, Act.eval]
  case hn => decide
  clear hF hA
  intro w4 a4 hA hF
  refine wpl_pair 103 [.qid] 5 #[(0, Operand.func 57)] hF hA ?hL (fun U => build1 .qid U) rfl rfl rfl rfl ?hp rfl rfl (by decide) (by decide) (by decide) ?hn ?_
  case hL => decide
  case hp => intro b; simp [partsV, fnOf, Act.eval]
  case hn => decide
  clear hF hA
  intro w5 a5 hA hF
  refine wpl_pair 104 [.fid, .afid, .uname, .aname] 6 #[(0, Operand.func 58), (1, Operand.func 54), (2, Operand.func 55), (3, Operand.func 56)] hF hA ?hL (fun U => build4 .fid .afid .uname .aname U) rfl rfl rfl rfl ?hp rfl rfl (by decide) (by decide) (by decide) ?hn ?_
  case hL => decide
  case hp => intro b; simp [partsV, fnOf, Act.eval]
  case hn => decide
  clear hF hA
  intro w6 a6 hA hF
  refine wpl_pair 105 [.qid] 7 #[(0, Operand.func 57)] hF hA ?hL (fun U => build1 .qid U) rfl rfl rfl rfl ?hp rfl rfl (by decide) (by decide) (by decide) ?hn ?_
  case hL => decide
  case hp => intro b; simp [partsV, fnOf, Act.eval]
  case hn => decide
  clear hF hA
  intro w7 a7 hA hF
  refine wpl_pair 107 [.ename] 8 #[(0, Operand.func 59)] hF hA ?hL (fun U => build1 .ename U) rfl rfl rfl rfl ?hp rfl rfl (by decide) (by decide) (by decide) ?hn ?_
  case hL => decide
  case hp => intro b; simp [partsV, fnOf, Act.eval]
  case hn => decide
  clear hF hA
  intro w8 a8 hA hF
  refine wpl_pair 108 [.oldtag] 9 #[(0, Operand.func 60)] hF hA ?hL (fun U => build1 .oldtag U) rfl rfl rfl rfl ?hp rfl rfl (by decide) (by decide) (by decide) ?hn ?_
  case hL => decide
  case hp => intro b; simp [partsV, fnOf, Act.eval]
  case hn => decide
  clear hF hA
  intro w9 a9 hA hF
  refine wpl_pair 109 [] 10 #[] hF hA ?hL (fun U => build0 U) rfl rfl rfl rfl ?hp rfl rfl (by decide) (by decide) (by decide) ?hn ?_
  case hL => decide
  case hp => intro b; simp [partsV, fnOf, Act.eval]
  case hn => decide
  clear hF hA
  intro w10 a10 hA hF
  refine wpl_pair 110 [.fid, .newfid, .names] 11 #[(0, Operand.func 58), (1, Operand.func 61), (2, Operand.func 62)] hF hA ?hL (fun U => build3 .fid .newfid .names U) rfl rfl rfl rfl ?hp rfl rfl (by decide) (by decide) (by decide) ?hn ?_
  case hL => decide
  case hp => intro b; simp [partsV, fnOf, Act.eval]
  case hn => decide
  clear hF hA
  intro w11 a11 hA hF
  refine wpl_pair 111 [.qids] 12 #[(0, Operand.func 63)] hF hA ?hL (fun U => build1 .qids U) rfl rfl rfl rfl ?hp rfl rfl (by decide) (by decide) (by decide) ?hn ?_
  case hL => decide
  case hp => intro b; simp [partsV, fnOf, Act.eval]
  case hn => decide
  clear hF hA
  intro w12 a12 hA hF
  refine wpl_pair 112 [.fid, .mode] 13 #[(0, Operand.func 58), (1, Operand.func 64)] hF hA ?hL (fun U => build2 .fid .mode U) rfl rfl rfl rfl ?hp rfl rfl (by decide) (by decide) (by decide) ?hn ?_
  case hL => decide
  case hp => intro b; simp [partsV, fnOf, Act.eval]
  case hn => decide
  clear hF hA
  intro w13 a13 hA hF
  refine wpl_pair 113 [.qid, .iounit] 14 #[(0, Operand.func 57), (1, Operand.func 65)] hF hA ?hL (fun U => build2 .qid .iounit U) rfl rfl rfl rfl ?hp rfl rfl (by decide) (by decide) (by decide) ?hn ?_
  case hL => decide
  case hp => intro b; simp [partsV, fnOf, Act.eval]
  case hn => decide
  clear hF hA
  intro w14 a14 hA hF
  refine wpl_pair 114 [.fid, .name, .perm, .mode] 15 #[(0, Operand.func 58), (1, Operand.func 66), (2, Operand.func 67), (3, Operand.func 64)] hF hA ?hL (fun U => build4 .fid .name .perm .mode U) rfl rfl rfl rfl ?hp rfl rfl (by decide) (by decide) (by decide) ?hn ?_
  case hL => decide
  case hp => intro b; simp [partsV, fnOf, Act.eval]
  case hn => decide
  clear hF hA
  intro w15 a15 hA hF
  refine wpl_pair 115 [.qid, .iounit] 16 #[(0, Operand.func 57), (1, Operand.func 65)] hF hA ?hL (fun U => build2 .qid .iounit U) rfl rfl rfl rfl ?hp rfl rfl (by decide) (by decide) (by decide) ?hn ?_
  case hL => decide
  case hp => intro b; simp [partsV, fnOf, Act.eval]
  case hn => decide
  clear hF hA
  intro w16 a16 hA hF
  refine wpl_pair 116 [.fid, .offset, .count] 17 #[(0, Operand.func 58), (1, Operand.func 68), (2, Operand.func 69)] hF hA ?hL (fun U => build3 .fid .offset .count U) rfl rfl rfl rfl ?hp rfl rfl (by decide) (by decide) (by decide) ?hn ?_
  case hL => decide
  case hp => intro b; simp [partsV, fnOf, Act.eval]
  case hn => decide
  clear hF hA
  intro w17 a17 hA hF
  refine wpl_pair 117 [.data] 18 #[(0, Operand.func 70)] hF hA ?hL (fun U => build1 .data U) rfl rfl rfl rfl ?hp rfl rfl (by decide) (by decide) (by decide) ?hn ?_
  case hL => decide
  case hp => intro b; simp [partsV, fnOf, Act.eval]
  case hn => decide
  clear hF hA
  intro w18 a18 hA hF
  refine wpl_pair 118 [.fid, .offset, .data] 19 #[(0, Operand.func 58), (1, Operand.func 68), (2, Operand.func 70)] hF hA ?hL (fun U => build3 .fid .offset .data U) rfl rfl rfl rfl ?hp rfl rfl (by decide) (by decide) (by decide) ?hn ?_
  case hL => decide
  case hp => intro b; simp [partsV, fnOf, Act.eval]
  case hn => decide
  clear hF hA
  intro w19 a19 hA hF
  refine wpl_pair 119 [.count] 20 #[(0, Operand.func 69)] hF hA ?hL (fun U => build1 .count U) rfl rfl rfl rfl ?hp rfl rfl (by decide) (by decide) (by decide) ?hn ?_
  case hL => decide
  case hp => intro b; simp [partsV, fnOf, Act.eval]
  case hn => decide
  clear hF hA
  intro w20 a20 hA hF
  refine wpl_pair 120 [.fid] 21 #[(0, Operand.func 58)] hF hA ?hL (fun U => build1 .fid U) rfl rfl rfl rfl ?hp rfl rfl (by decide) (by decide) (by decide) ?hn ?_
  case hL => decide
  case hp => intro b; simp [partsV, fnOf, Act.eval]
  case hn => decide
  clear hF hA
  intro w21 a21 hA hF
  refine wpl_pair 121 [] 22 #[] hF hA ?hL (fun U => build0 U) rfl rfl rfl rfl ?hp rfl rfl (by decide) (by decide) (by decide) ?hn ?_
  case hL => decide
  case hp => intro b; simp [partsV, fnOf, Act.eval]
  case hn => decide
  clear hF hA
  intro w22 a22 hA hF
  refine wpl_pair 122 [.fid] 23 #[(0, Operand.func 58)] hF hA ?hL (fun U => build1 .fid U) rfl rfl rfl rfl ?hp rfl rfl (by decide) (by decide) (by decide) ?hn ?_
  case hL => decide
  case hp => intro b; simp [partsV, fnOf, Act.eval]
  case hn => decide
  clear hF hA
  intro w23 a23 hA hF
  refine wpl_pair 123 [] 24 #[] hF hA ?hL (fun U => build0 U) rfl rfl rfl rfl ?hp rfl rfl (by decide) (by decide) (by decide) ?hn ?_
  case hL => decide
  case hp => intro b; simp [partsV, fnOf, Act.eval]
  case hn => decide
  clear hF hA
  intro w24 a24 hA hF
  refine wpl_pair 124 [.fid] 25 #[(0, Operand.func 58)] hF hA ?hL (fun U => build1 .fid U) rfl rfl rfl rfl ?hp rfl rfl (by decide) (by decide) (by decide) ?hn ?_
  case hL => decide
  case hp => intro b; simp [partsV, fnOf, Act.eval]
  case hn => decide
  clear hF hA
  intro w25 a25 hA hF
  refine wpl_pair 125 [.stat] 26 #[(0, Operand.func 71)] hF hA ?hL (fun U => build1 .stat U) rfl rfl rfl rfl ?hp rfl rfl (by decide) (by decide) (by decide) ?hn ?_
  case hL => decide
  case hp => intro b; simp [partsV, fnOf, Act.eval]
  case hn => decide
  clear hF hA
  intro w26 a26 hA hF
  refine wpl_pair 126 [.fid, .stat] 27 #[(0, Operand.func 58), (1, Operand.func 71)] hF hA ?hL (fun U => build2 .fid .stat U) rfl rfl rfl rfl ?hp rfl rfl (by decide) (by decide) (by decide) ?hn ?_
  case hL => decide
  case hp => intro b; simp [partsV, fnOf, Act.eval]
  case hn => decide
  clear hF hA
  intro w27 a27 hA hF
  refine wpl_pair 127 [] 28 #[] hF hA ?hL (fun U => build0 U) rfl rfl rfl rfl ?hp rfl rfl (by decide) (by decide) (by decide) ?hn ?_
  case hL => decide
  case hp => intro b; simp [partsV, fnOf, Act.eval]
  case hn => decide
  clear hF hA
  intro w28 a28 hA hF
  refine wpList_plain rfl fun K hK => ?_
  have e1 := hA.e1
  unfold Oper.wp execOp
  simp only [e1, Sem.run_pure, Result.andThen_ok]
  refine hK _ _ ?_
  have e29 := put_same a28 29 (.map (some w.heap.size)) (by rw [hA.sz]; decide)
  have s29 : (a28.put (some 29) (.map (some w.heap.size))).tmps.size = 30 := (hA.put 29 _ (by decide)).sz
  have d29 : (a28.put (some 29) (.map (some w.heap.size))).defers = [] := hA.df
  refine wpList_plain rfl fun K hK => ?_
  unfold Oper.wp execOp
  simp only [e29, Sem.run_pure, Result.andThen_ok]
  refine hK _ _ ?_
  refine wpList_nil ?_
  have e0 := put_same (a28.put (some 29) (.map (some w.heap.size))) 0 (.map (some w.heap.size)) (by rw [s29]; decide)
  have d0 : ((a28.put (some 29) (.map (some w.heap.size))).put (some 0) (.map (some w.heap.size))).defers = [] := d29
  generalize (a28.put (some 29) (.map (some w.heap.size))) = b at *
  show Exit.then _ _ .normal (b.put (some 0) (.map (some w.heap.size))) w28
  generalize b.put (some 0) (.map (some w.heap.size)) = c at *
  clear hK K e29 s29 d29 e1 hA
  go_wp2
  refine bodyPost_ret (v := .map (some w.heap.size)) ?_ d0 ⟨_, rfl, hF⟩
  exact res1 rfl e0
theorem fldTab_mem {t : Nat} {l : List Fld} : (t, l) ∈ fldTab ↔ fieldsOf t = some l := by
  constructor
  · intro h
    simp only [fldTab, List.mem_cons, List.not_mem_nil, or_false, Prod.mk.injEq] at h
    rcases h with h | h | h | h | h | h | h | h | h | h | h | h | h | h | h | h | h | h | h | h | h | h | h | h | h | h | h <;> (obtain ⟨rfl, rfl⟩ := h; rfl)
  · intro h
    unfold fieldsOf at h
    split at h <;> first | (injection h with h; subst h; decide) | cases h
theorem fldTab_none {t : Nat} (h : fieldsOf t = none) : t ∉ fldTab.map Prod.fst := by
  intro hm
  obtain ⟨p, hp, rfl⟩ := List.mem_map.1 hm
  have := fldTab_mem.1 (show (p.1, p.2) ∈ fldTab from hp)
  rw [h] at this
  cases this
/-- what the table answers -/
theorem FS.look {w0 w : World} {mb : Nat} (h : FS w0 w mb fldTab) (t : Nat) (ht : t < 256) :
    ∃ v, (Instr.lookup 60 (.map (some mb)) (.int .u8 t) true).run Tryz.prog w = .ok (.tuple #[v, .bool (fieldsOf t).isSome]) w ∧ SlAt w (mb < ·) v (fnV ((fieldsOf t).getD [])) ∧ ∃ a n c, v = .slice a n c := by
  obtain ⟨f, hf, hv, h0⟩ := h.map
  have hz : ∀ w, (zeroValue 58).run Tryz.prog w = .ok (.slice none 0 0) w := fun w => by kernel_rfl
  have hl := hf.mapF.look_ok lawU8 Tryz.underlying60 (hz w) (key_u8 ht)
  cases hq : fieldsOf t with
  | none =>
    rw [h0 t (fldTab_none hq)] at hl
    exact ⟨_, hl, .inl ⟨rfl, _, _, rfl⟩, _, _, _, rfl⟩
  | some l =>
    obtain ⟨v, e1, e2⟩ := hv (t, l) (fldTab_mem.2 hq)
    rw [show f t = some v from e1] at hl
    obtain ⟨a, c, hv', _⟩ := e2.form
    exact ⟨v, hl, e2, _, _, _, hv'⟩
theorem fieldsOf_nodup {t : Nat} {l : List Fld} (h : fieldsOf t = some l) : l.Nodup := by
  unfold fieldsOf at h
  split at h <;> first | (injection h with h; subst h; decide) | cases h
end Go.Proofs.YtklpopmjpgdjnaaGreatDoor
