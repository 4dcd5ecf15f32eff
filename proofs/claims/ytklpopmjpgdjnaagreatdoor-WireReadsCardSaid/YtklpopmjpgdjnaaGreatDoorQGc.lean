/- Inside a fence that lets all by: a region that draws its order, by the plain words (go_region_held).
   A slice of records (several cells each).
   A region that draws its order, of which all but the last operation only read: one walk in the order of the text, then the last one.
   A region that draws its order, of which all but the last operation only read: the last one comes up behind all others, through others too.
   A struct of many cells read and written as a whole, as the walk meets it.
   A struct of many cells stored as a whole, as an operation. -/
import Derived.Test.YtklpopmjpgdjnaaGreatDoorQGa
import Derived.Deep.RegionHeldLaw
import Derived.Sort.QuietIn
import Derived.Test.YtklpopmjpgdjnaaGreatDoorQGb
import Derived.RangeFuncBox
import Derived.Deep.MidRow
import Derived.Laws.CopyRow
set_option linter.unusedVariables false
set_option linter.unusedSimpArgs false
namespace Go.Proofs.YtklpopmjpgdjnaaGreatDoor
open Go.RowKit

/-- ends as it should, and at the end Q -/
def onlyN (Q : Exit → Act → World → Prop) : Exit → Act → World → Prop
  | .normal, a, w => Q .normal a w
  | _, _, _ => False
theorem onlyN_imp {Q : Exit → Act → World → Prop} : ∀ e a w, onlyN Q e a w → Q e a w
  | .normal, _, _, h => h
  | .ret, _, _, h => h.elim
  | .exit _, _, _, h => h.elim
  | .goto _, _, _, h => h.elim
  | .panic _, _, _, h => h.elim
  | .outgrown, _, _, h => h.elim
theorem wpIn_onlyN {n : Nat} {P : Program} {c : Code} {Q : Exit → Act → World → Prop} {a : Act} {w : World} (h : c.wp P (onlyN Q) a w) : c.wpIn Fence.wide n P Q a w :=
  wpIn_wide.2 (Code.wp_mono onlyN_imp h)
theorem wp_onlyN {P : Program} {c : Code} {Q : Exit → Act → World → Prop} {a : Act} {w : World} (h : c.wp P (onlyN Q) a w) : c.wp P Q a w := Code.wp_mono onlyN_imp h
theorem onlyN_out {Q : Exit → Act → World → Prop} {a : Act} {w : World} (h : Q .normal a w) : onlyN Q .normal a w := h

section
variable {F : Fence} {n : Nat} {P : Program} {ops : Array Oper} {md : Region.Mode} {Q : Exit → Act → World → Prop}
def noDefer (ops : List Oper) : Bool := ops.all fun o => match o.op with | .defer _ => false | _ => true
theorem noDefer_spec {ops : Array Oper} (h : noDefer ops.toList = true) {i : Nat} {o : Oper} (hi : ops[i]? = some o) : ∀ c, o.op ≠ .defer c := by
  intro c hc
  simp only [noDefer, List.all_eq_true] at h
  have := h o (by rw [Array.mem_toList_iff]; exact Array.mem_of_getElem? hi)
  rw [hc] at this
  cases this
theorem uponIn_inRound (l : Nat) (o : Oper) (a : Act) (K : Act → World → Prop) (r : Result Next) (h : o.uponIn F n P a K Q r) : o.uponIn (F.inRound l) n P a K Q r := h
theorem wpOpIn_inRound {l i : Nat} (hro : F.round = none) (hd : noDefer ops.toList = true) {K K' : Act → World → Prop} {a : Act} {w : World} (hK : ∀ a w, K a w → K' a w) (h : wpOpIn F n P ops Q i K a w) : wpOpIn (F.inRound l) n P ops Q i K' a w := by
  have h := wpOpIn_mono hK h
  unfold wpOpIn at *
  cases hi : ops[i]? with
  | none => rw [hi] at h; exact h
  | some o =>
    rw [hi] at h
    have hn := noDefer_spec hd hi
    simp only at h ⊢
    split
    · rename_i hw
      rw [if_pos hw] at h
      unfold Oper.wpIn at *
      rw [Oper.semAt_eq _ _ _ hn] at h ⊢
      exact ⟨h.1, uponIn_inRound l _ _ _ _ h.2⟩
    · rename_i hw
      rw [if_neg hw] at h
      exact h
theorem wpAnyIn_inRound {l : Nat} (hro : F.round = none) (hd : noDefer ops.toList = true) : ∀ (fuel : Nat) (listed : Array Bool) (a : Act) (w : World), wpAnyIn F n P md ops Q fuel listed a w → wpAnyIn (F.inRound l) n P md ops Q fuel listed a w
  | 0, _, _, _, h => h
  | fuel + 1, _, _, _, h => ⟨h.1, fun i hi => wpOpIn_inRound hro hd (fun a w => wpAnyIn_inRound hro hd fuel _ a w) (h.2 i hi)⟩
/-- a region that only reads, in a round of a range over a function -/
theorem wpIn_region_quiet_round {id r : Nat} {a : Act} {w : World} {l : List Oper} (hro : F.round = none) (hm : P.follows .mixedOrders = true) (hB : Region.lexB .any l.toArray = true) (hd : noDefer l = true)
    (h : wpQuietIn F n P l.toArray (fun w' => ∃ n, w' = w.drewN n) (fun a' => ∀ w', (∃ n, w' = w.drewN n) → Q .normal a' w') l a) : (Code.region id l.toArray true).wpIn (F.inRound r) n P Q a w := by
  simp only [Region.lexB, Bool.and_eq_true] at hB
  refine wpIn_region_any hm (wpAnyIn_inRound hro (by simpa using hd) _ _ _ _ (wpAnyIn_of_quiet (C := fun w' => ∃ n, w' = w.drewN n) (Q := fun a' => ∀ w', (∃ n, w' = w.drewN n) → Q .normal a' w') hro (fun _ w' hw' h => h w' hw') _ _ _ _ ⟨1, rfl⟩ ?_))
  have := wpAnyQIn_lex (F := F) (n := n) (C := fun w' => ∃ n, w' = w.drewN n) (md := .any) hB.1 l 0 (Array.replicate l.toArray.size false) a (by simp) (by simpa using hB.2) h
  simpa using this
end
end Go.Proofs.YtklpopmjpgdjnaaGreatDoor
namespace Go.Proofs.YtklpopmjpgdjnaaGreatDoor
open Go.RowKit

section
variable {α : Type} (cs : α → List Value) (sz : Nat)
/-- a slice of records that reads as l; its block meets P -/
def RecsAt (w : World) (P : Nat → Prop) (v : Value) (l : List α) : Prop :=
  (l = [] ∧ ∃ a c, v = .slice a 0 c) ∨ ∃ g off cap, v = .slice (some ⟨g, off, none⟩) l.length cap ∧ P g ∧ g < w.heap.size ∧ l.length ≤ cap ∧
    ∀ j s, l[j]? = some s → ∀ i u, (cs s)[i]? = some u → w.cell? ⟨g, off + j * sz + i, none⟩ = some u
def flatR (l : List α) : List Value := l.flatMap cs
variable {cs sz}
theorem RecsAt.mod {w w' : World} {P S : Nat → Prop} {v : Value} {l : List α} (h : RecsAt cs sz w P v l) (hm : Mod S w w') (hp : ∀ g, P g → g < w.heap.size → ¬ S g) : RecsAt cs sz w' P v l := by
  rcases h with h | ⟨g, off, cap, h1, h2, h3, h4, h5⟩
  · exact .inl h
  · exact .inr ⟨g, off, cap, h1, h2, Nat.lt_of_lt_of_le h3 hm.size, h4, fun j s hj i u hu => (World.cell?_of_block (hm.block g h3 (hp g h2 h3))).trans (h5 j s hj i u hu)⟩
theorem RecsAt.imp {w : World} {P Q : Nat → Prop} {v : Value} {l : List α} (h : RecsAt cs sz w P v l) (hp : ∀ g, P g → Q g) : RecsAt cs sz w Q v l := by
  rcases h with h | ⟨g, off, cap, h1, h2, h3⟩
  · exact .inl h
  · exact .inr ⟨g, off, cap, h1, hp g h2, h3⟩
theorem RecsAt.nil (w : World) (P : Nat → Prop) : RecsAt cs sz w P (.slice none 0 0) [] := .inl ⟨rfl, _, _, rfl⟩
theorem RecsAt.form {w : World} {P : Nat → Prop} {v : Value} {l : List α} (h : RecsAt cs sz w P v l) : ∃ a cap, v = .slice a l.length cap ∧ l.length ≤ cap ∧
    ∀ j s, l[j]? = some s → ∃ g off, a = some ⟨g, off, none⟩ ∧ P g ∧ g < w.heap.size ∧ ∀ i u, (cs s)[i]? = some u → w.cell? ⟨g, off + j * sz + i, none⟩ = some u := by
  rcases h with ⟨rfl, a, c, rfl⟩ | ⟨g, off, cap, h1, h2, h3, h4, h5⟩
  · exact ⟨a, c, rfl, Nat.zero_le _, fun j u hj => by simp at hj⟩
  · exact ⟨_, cap, h1, h4, fun j s hj => ⟨g, off, rfl, h2, h3, h5 j s hj⟩⟩
theorem flatR_append (l m : List α) : flatR cs (l ++ m) = flatR cs l ++ flatR cs m := List.flatMap_append
theorem flatR_length (hl : ∀ a, (cs a).length = sz) (l : List α) : (flatR cs l).length = l.length * sz := by
  induction l with
  | nil => rw [List.length_nil, Nat.zero_mul]; rfl
  | cons a l ih => unfold flatR at *; rw [List.flatMap_cons, List.length_append, ih, List.length_cons, hl, Nat.add_mul]; omega
theorem flatR_one (h1 : ∀ a, ∀ u ∈ cs a, u.oneCell' = true) (l : List α) : ∀ u ∈ flatR cs l, u.oneCell' = true := by
  intro u hu
  obtain ⟨s, _, hs⟩ := List.mem_flatMap.1 hu
  exact h1 s u hs
theorem flatR_get (hl : ∀ a, (cs a).length = sz) (L : List α) : ∀ j s, L[j]? = some s → ∀ i, i < sz → (flatR cs L)[j * sz + i]? = (cs s)[i]? := by
  induction L with
  | nil => intro j s h; cases h
  | cons a L ih =>
    intro j s h i hi
    unfold flatR at *
    rw [List.flatMap_cons]
    cases j with
    | zero =>
      simp at h
      subst h
      rw [Nat.zero_mul, Nat.zero_add, List.getElem?_append_left (by rw [hl]; exact hi)]
    | succ j =>
      rw [List.getElem?_append_right (by rw [hl, Nat.add_mul]; omega), ← ih j s h i hi, hl]
      congr 1
      rw [Nat.add_mul]
      omega
theorem flatR_at (h0 : 0 < sz) (hl : ∀ a, (cs a).length = sz) (l : List α) (k : Nat) (u : Value) (h : (flatR cs l)[k]? = some u) : ∃ j i s, k = j * sz + i ∧ l[j]? = some s ∧ (cs s)[i]? = some u := by
  have hk : k < l.length * sz := by rw [← flatR_length hl]; exact (List.getElem?_eq_some_iff.1 h).1
  have hj : k / sz < l.length := Nat.div_lt_of_lt_mul (by rw [Nat.mul_comm]; exact hk)
  have hke : k = k / sz * sz + k % sz := by rw [Nat.mul_comm]; exact (Nat.div_add_mod k sz).symm
  refine ⟨k / sz, k % sz, l[k / sz], hke, List.getElem?_eq_getElem hj, ?_⟩
  have := flatR_get hl l (k / sz) l[k / sz] (List.getElem?_eq_getElem hj) (k % sz) (Nat.mod_lt _ h0)
  rw [← this, ← hke]
  exact h
theorem OwnA.recs (h0 : 0 < sz) (hl : ∀ a, (cs a).length = sz) {w : World} {base n : Nat} {v : Value} {l : List α} (h : OwnA w base sz v n (flatR cs l)) : RecsAt cs sz w (base ≤ ·) v l := by
  obtain ⟨h1, h2⟩ := h
  rw [flatR_length hl] at h1
  obtain rfl : l.length = n := Nat.eq_of_mul_eq_mul_right h0 h1
  rcases h2 with ⟨h2, h3⟩ | ⟨g, cap, hv, hg, hll, hn, _, _, hc⟩
  · exact .inl ⟨List.eq_nil_of_length_eq_zero h3, _, _, h2⟩
  · refine .inr ⟨g, 0, cap, hv, hg, hll, hn, fun j s hj i u hu => ?_⟩
    have hi : i < sz := by rw [← hl s]; exact (List.getElem?_eq_some_iff.1 hu).1
    rw [Nat.zero_add]
    exact hc (j * sz + i) u ((flatR_get hl l j s hj i hi).trans hu)
theorem src_recs {P : Program} {tx e : TypeId} (hk : P.underlying tx = some (.slice e)) (h0 : 0 < sz) (hl : ∀ a, (cs a).length = sz) (h1 : ∀ a, ∀ u ∈ cs a, u.oneCell' = true) {w : World} {Q : Nat → Prop} {a : Option Addr} {n c : Nat} {l : List α} (h : RecsAt cs sz w Q (.slice a n c) l) (hn : l.length = n) : Src P sz tx (.slice a n c) n (flatR cs l) w := by
  rcases h with ⟨rfl, a', c', h⟩ | ⟨g, off, cap, h, _, _, _, hc⟩
  · obtain rfl : n = 0 := hn.symm
    cases a with
    | none => exact Src.ofNil _ hk c
    | some ad => exact Src.ofSlice _ hk ad 0 c [] (by simp) (fun j u hj => by simp at hj) (fun u hu => by cases hu)
  · injection h with e1 e2 e3
    subst e1
    refine Src.ofSlice _ hk _ n c (flatR cs l) (by rw [flatR_length hl, hn]) (fun k u hk => ?_) (flatR_one h1 l)
    rw [show (⟨g, off, none⟩ : Addr).add k = ⟨g, off + k, none⟩ from by unfold Addr.add; split <;> simp_all]
    obtain ⟨j, i, s, rfl, hj, hi⟩ := flatR_at h0 hl l k u hk
    rw [← Nat.add_assoc]
    exact hc j s hj i u hi
end
/-- a row that keeps off what is turned -/
theorem owns_nearR {A C : World} {E : Nat → Prop} (hm : Mod E A C) {B size n : Nat} {e : TypeId} {v : Value} {xs : List Value} (h : A.ownsRow B e size v n xs) (hE : ∀ k cs, E k → A.heap[k]? ≠ some (.cells cs e (0, 0))) : C.ownsRow B e size v n xs := by
  refine ⟨h.1, ?_⟩
  rcases h.2 with hn | ⟨g, cap, cur, hv, hb, hgg, r⟩
  · exact .inl hn
  · exact .inr ⟨g, cap, cur, hv, hb, (hm.block g (lt_of hgg) (fun x => hE g _ x hgg)).trans hgg, r⟩
theorem mod_putR {A : World} {k : Nat} (o' : Obj) : Mod (· = k) A (A.putObj k o') := by
  have hg := grownBy_putObj' A k o'
  exact ⟨hg.os, hg.tape, hg.output, hg.size, fun j hj hs => hg.block j hj (fun e => hs (by injection e))⟩
theorem row_neR {A : World} {B size n : Nat} {e : TypeId} {v : Value} {xs : List Value} {k : Nat} {o : Obj} (h : A.ownsRow B e size v n xs) (hk : A.heap[k]? = some o) (ht : ∀ cs, o ≠ .cells cs e (0, 0)) : some k ≠ v.ownBlock := by
  rcases h.2 with ⟨rfl, _⟩ | ⟨g, cap, cur, rfl, _, hgg, _⟩
  · intro e; simp [Value.ownBlock] at e
  · intro e
    have e1 : k = g := by simpa [Value.ownBlock] using e
    subst e1
    rw [hk] at hgg
    injection hgg with hgg
    exact ht _ hgg
theorem mod_belowR {a c d : World} (h : Mod (fun _ => False) a c) (k : Below a.heap.size c d) : Mod (fun _ => False) a d :=
  ⟨k.os.trans h.os, k.tape.trans h.tape, k.output.trans h.output, Nat.le_trans h.size k.size, fun i hi hs => (k.block i hi).trans (h.block i hi hs)⟩
theorem setCell_idR {w : World} {b i : Nat} {cs : Array Value} {e : TypeId} {v : Value} (h : w.heap[b]? = some (.cells cs e (0, 0))) (hv : cs[i]? = some v) : w.setCell ⟨b, i, none⟩ v = w := by
  have hi : i < cs.size := (Array.getElem?_eq_some_iff.1 hv).1
  have hcs : cs.setIfInBounds i v = cs := by
    obtain ⟨_, h2⟩ := Array.getElem?_eq_some_iff.1 hv
    rw [Array.setIfInBounds, dif_pos hi, ← h2, Array.set_getElem_self]
  have hh : (w.setCell ⟨b, i, none⟩ v).heap = w.heap := by
    apply Array.ext_getElem?
    intro j
    by_cases hj : j = b
    · subst hj
      rw [heap_set h i v, hcs, h]
    · rw [Below.heap_setCell _ _ _ _ hj]
  show { w with heap := (w.setCell ⟨b, i, none⟩ v).heap } = w
  rw [hh]
theorem keepR {U V : World} (hm : Mod (fun _ => False) U V) {b i : Nat} {v : Value} (h : U.cell? ⟨b, i, none⟩ = some v) : V.cell? ⟨b, i, none⟩ = some v :=
  (World.cell?_of_block (a := ⟨b, i, none⟩) (hm.block b (World.block_lt_of_cell? _ _ h) (fun x => x))).trans h
end Go.Proofs.YtklpopmjpgdjnaaGreatDoor
namespace Go.Proofs.YtklpopmjpgdjnaaGreatDoor
open Go.RowKit

/-- o comes up behind all of ops alone -/
def lastB (md : Region.Mode) (ops : Array Oper) (o : Oper) : Bool :=
  ((List.range ops.size).all fun i => o.after.any fun e => Region.binds md e && e.on == i) && (o.after.all fun e => decide (e.on < ops.size)) && o.guard.isNone &&
    (List.range ops.size).all fun i => match ops[i]? with
      | some oi => (oi.after.all fun e => decide (e.on < i)) && (match oi.guard with | none => true | some (g, _) => decide (g < ops.size))
      | none => true

theorem getD_push_false (l : Array Bool) (j : Nat) : (l.push false).getD j false = l.getD j false := by
  simp only [Array.getD_eq_getD_getElem?, Array.getElem?_push]
  by_cases h : j = l.size
  · subst h; simp
  · rw [if_neg h]
theorem getD_push_lt (l : Array Bool) (x : Bool) (j : Nat) (d : Bool) (h : j < l.size) : (l.push x).getD j d = l.getD j d := by
  simp only [Array.getD_eq_getD_getElem?, Array.getElem?_push]
  rw [if_neg (by omega)]

theorem ready_push (md : Region.Mode) (ops : Array Oper) (o : Oper) (listed : Array Bool) (hs : listed.size = ops.size) :
    Region.ready md (ops.push o) (listed.push false) = Region.ready md ops listed ++ if (o.after.all fun e => !Region.binds md e || listed.getD e.on false) = true then [ops.size] else [] := by
  unfold Region.ready
  rw [Array.size_push, List.range_succ, List.filter_append]
  congr 1
  · refine List.filter_congr fun i hi => ?_
    have hi' : i < ops.size := List.mem_range.1 hi
    rw [getD_push_lt _ _ _ _ (by omega), Array.getElem?_push, if_neg (by omega)]
    simp only [getD_push_false]
  · rw [List.filter_cons, List.filter_nil, Array.getElem?_push, if_pos rfl]
    have h1 : (listed.push false).getD ops.size true = false := by
      rw [Array.getD_eq_getD_getElem?, Array.getElem?_push, if_pos hs.symm]; rfl
    simp only [getD_push_false, h1, Bool.not_false, Bool.true_and, Option.map_some, Option.getD_some]
theorem ready_all (md : Region.Mode) (ops : Array Oper) (listed : Array Bool) (h : ∀ i, i < ops.size → listed.getD i true = true) : Region.ready md ops listed = [] := by
  unfold Region.ready
  rw [List.filter_eq_nil_iff]
  intro i hi
  rw [h i (List.mem_range.1 hi)]
  simp

section
variable {P : Program} {md : Region.Mode} {ops : Array Oper} {o : Oper} {C : World → Prop} {Q : Act → Prop} {Q' : Exit → Act → World → Prop}

theorem qOp_push {i : Nat} {K : Act → Prop} {a : Act} (hi : i < ops.size) (hL : lastB md ops o = true) (h : qOp P ops C i K a) : qOp P (ops.push o) C i K a := by
  have h0 : ops[i]? = some ops[i] := Array.getElem?_eq_getElem hi
  unfold qOp at *
  rw [Array.getElem?_push, if_neg (by omega)]
  simp only [h0] at h ⊢
  have hw : Region.wanted ops[i] (yielded (ops.push o) a.tmps) = Region.wanted ops[i] (yielded ops a.tmps) := by
    unfold Region.wanted
    cases hg : ops[i].guard with
    | none => rfl
    | some p =>
      obtain ⟨g, b⟩ := p
      simp only [lastB, Bool.and_eq_true, List.all_eq_true, List.mem_range] at hL
      have h3 := hL.2 i hi
      rw [h0] at h3
      simp only [hg, Bool.and_eq_true, decide_eq_true_eq] at h3
      simp only [yielded]
      rw [Array.getElem?_push, if_neg (by omega)]
  rw [hw]
  exact h

theorem least_un : ∀ (n : Nat) (p : Nat → Bool), (¬ ∀ i, i < n → p i = true) → ∃ i, i < n ∧ p i = false ∧ ∀ j, j < i → p j = true
  | 0, _, h => absurd (fun i hi => absurd hi (Nat.not_lt_zero i)) h
  | n + 1, p, h => by
    by_cases h0 : ∀ i, i < n → p i = true
    · refine ⟨n, Nat.lt_succ_self n, ?_, h0⟩
      rw [Bool.eq_false_iff]
      intro hp
      exact h fun i hi => by rcases Nat.lt_succ_iff_lt_or_eq.1 hi with hi | rfl; exact h0 i hi; exact hp
    · obtain ⟨i, h1, h2, h3⟩ := least_un n p h0
      exact ⟨i, by omega, h2, h3⟩
theorem ready_some (hL : lastB md ops o = true) (listed : Array Bool) (hs : listed.size = ops.size) (hA : ¬ ∀ i, i < ops.size → listed.getD i true = true) : Region.ready md ops listed ≠ [] := by
  simp only [lastB, Bool.and_eq_true, List.all_eq_true, List.mem_range] at hL
  obtain ⟨i, h1, h2, h3⟩ := least_un ops.size (fun i => listed.getD i true) hA
  have hm : i ∈ Region.ready md ops listed := by
    have h0 : ops[i]? = some ops[i] := Array.getElem?_eq_getElem h1
    have hwf := hL.2 i h1
    rw [h0] at hwf
    simp only [Bool.and_eq_true] at hwf
    unfold Region.ready
    rw [List.mem_filter, List.mem_range]
    refine ⟨h1, ?_⟩
    rw [h2, h0]
    simp only [Bool.not_false, Bool.true_and, Option.map_some, Option.getD_some]
    rw [Array.all_eq_true']
    intro e he
    have h4 := Array.all_eq_true'.1 hwf.1 e he
    simp only [decide_eq_true_eq] at h4
    have h5 := h3 e.on h4
    simp only [Array.getD_eq_getD_getElem?] at h5 ⊢
    rw [Array.getElem?_eq_getElem (by omega)] at h5 ⊢
    simp only [Option.getD_some] at h5 ⊢
    rw [h5, Bool.or_true]
  intro h
  rw [h] at hm
  cases hm
theorem wpAny_last (hL : lastB md ops o = true) (hQ : ∀ a w, C w → Q a → ∀ K : Act → World → Prop, (∀ a w, Q' .normal a w → K a w) → o.wp P a w K Q')
    (fuel : Nat) (listed : Array Bool) (a : Act) (w : World) (hs : listed.size = ops.size) (hw : C w) (hA : ∀ i, i < ops.size → listed.getD i true = true) (h : Q a) : wpAny P md (ops.push o) Q' (fuel + 1) (listed.push false) a w := by
  simp only [lastB, Bool.and_eq_true, List.all_eq_true, List.mem_range] at hL
  obtain ⟨⟨⟨_, hlt⟩, hgd⟩, _⟩ := hL
  have hr : Region.ready md (ops.push o) (listed.push false) = [ops.size] := by
    rw [ready_push _ _ _ _ hs, ready_all md ops listed hA, if_pos, List.nil_append]
    rw [Array.all_eq_true']
    intro e he
    have h1 := Array.all_eq_true'.1 hlt e he
    simp only [decide_eq_true_eq] at h1
    have h2 := hA e.on h1
    simp only [Array.getD_eq_getD_getElem?] at h2 ⊢
    rw [Array.getElem?_eq_getElem (by omega)] at h2 ⊢
    simp only [Option.getD_some] at h2 ⊢
    rw [h2, Bool.or_true]
  refine ⟨fun h0 => (by rw [hr] at h0; cases h0), fun i hi => ?_⟩
  rw [hr] at hi
  obtain rfl : i = ops.size := by simpa using hi
  unfold wpOp
  rw [Array.getElem?_push, if_pos rfl]
  have hwt : Region.wanted o (yielded (ops.push o) a.tmps) = true := by
    unfold Region.wanted
    rw [Option.isNone_iff_eq_none.1 hgd]
  simp only [hwt, if_true]
  refine .inl (hQ a w hw h _ fun a' w' hn => wpAny_done (ready_all _ _ _ fun i hi => ?_) hn fuel)
  rw [Array.size_push] at hi
  simp only [Array.getD_eq_getD_getElem?, Array.getElem?_setIfInBounds, Array.getElem?_push, Array.size_push]
  by_cases h1 : ops.size = i
  · subst h1
    rw [if_pos rfl, if_pos (by omega)]; rfl
  · rw [if_neg h1, if_neg (by omega)]
    have h2 := hA i (by omega)
    simpa only [Array.getD_eq_getD_getElem?] using h2

theorem wpAny_then (hL : lastB md ops o = true) (hQ : ∀ a w, C w → Q a → ∀ K : Act → World → Prop, (∀ a w, Q' .normal a w → K a w) → o.wp P a w K Q') :
    ∀ (fuel : Nat) (listed : Array Bool) (a : Act) (w : World), listed.size = ops.size → C w → wpAnyQ P md ops C Q fuel listed a → wpAny P md (ops.push o) Q' (fuel + 1) (listed.push false) a w := by
  have hL0 := hL
  simp only [lastB, Bool.and_eq_true, List.all_eq_true, List.mem_range] at hL
  obtain ⟨⟨⟨hall, _⟩, _⟩, _⟩ := hL
  intro fuel
  induction fuel with
  | zero =>
    intro listed a w hs hw h
    by_cases hA : ∀ i, i < ops.size → listed.getD i true = true
    · exact wpAny_last hL0 hQ 0 listed a w hs hw hA h.2
    · exact absurd h.1 (ready_some hL0 listed hs hA)
  | succ fuel ih =>
    intro listed a w hs hw h
    by_cases hA : ∀ i, i < ops.size → listed.getD i true = true
    · exact wpAny_last hL0 hQ (fuel + 1) listed a w hs hw hA (h.1 (ready_all md ops listed hA))
    · have hne := ready_some hL0 listed hs hA
      have hr : Region.ready md (ops.push o) (listed.push false) = Region.ready md ops listed := by
        rw [ready_push _ _ _ _ hs, if_neg, List.append_nil]
        intro hh
        apply hA
        intro i hi
        obtain ⟨e, he, hb⟩ := Array.any_eq_true'.1 (hall i hi)
        simp only [Bool.and_eq_true, beq_iff_eq] at hb
        have := Array.all_eq_true'.1 hh e he
        rw [hb.1, hb.2] at this
        simp only [Bool.not_true, Bool.false_or] at this
        simp only [Array.getD_eq_getD_getElem?] at this ⊢
        rw [Array.getElem?_eq_getElem (by omega)] at this ⊢
        exact this
      refine ⟨fun h0 => absurd (hr ▸ h0) hne, fun i hi => ?_⟩
      rw [hr] at hi
      have hil : i < ops.size := List.mem_range.1 (List.mem_filter.1 hi).1
      have hset : (listed.push false).setIfInBounds i true = (listed.setIfInBounds i true).push false := by
        apply Array.ext_getElem?
        intro j
        simp only [Array.getElem?_push, Array.getElem?_setIfInBounds, Array.size_push, Array.size_setIfInBounds]
        by_cases hj : j = listed.size
        · rw [if_pos hj, if_neg (by omega), if_pos hj]
        · rw [if_neg hj, if_neg hj]
          by_cases hij : i = j
          · rw [if_pos hij, if_pos hij, if_pos (by omega), if_pos (by omega)]
          · rw [if_neg hij, if_neg hij]
      rw [hset]
      exact wpOp_of_qOp hw (fun a' w' hw' hh => ih _ _ _ (by rw [Array.size_setIfInBounds]; exact hs) hw' hh) (qOp_push hil hL0 (h.2 i hi))
theorem wp_region_then {id k : Nat} {a : Act} {w : World} {ops : List Oper} (l : List Oper) (o : Oper) (hl : ops.take k = l) (ho : ops[k]? = some o) (hk : ops.length = k + 1) (hm : P.follows .mixedOrders = true) (hB : Region.lexB .any l.toArray = true) (hL : lastB .any l.toArray o = true)
    (h : wpQuiet P l.toArray (fun w' => ∃ n, w' = w.drewN n) (fun a' => ∀ w', (∃ n, w' = w.drewN n) → ∀ K : Act → World → Prop, (∀ a w, Q' .normal a w → K a w) → o.wp P a' w' K Q') l a) : (Code.region id ops.toArray true).wp P Q' a w := by
  have he : ops.toArray = l.toArray.push o := by
    rw [List.push_toArray, ← hl]
    congr 1
    apply List.ext_getElem?
    intro i
    rw [List.getElem?_append, List.length_take, List.getElem?_take]
    by_cases h1 : i < k
    · rw [if_pos (by omega), if_pos h1]
    · rw [if_neg (by omega)]
      by_cases h2 : i = k
      · subst h2
        rw [ho, show i - min i ops.length = 0 from by omega]; rfl
      · rw [List.getElem?_eq_none (by omega), List.getElem?_eq_none (by simp; omega)]
  rw [he]
  have hlen : l.length = k := by rw [← hl, List.length_take]; omega
  simp only [Region.lexB, Bool.and_eq_true] at hB
  refine wp_region_any hm ?_
  have h2 := wpAnyQ_lex (C := fun w' => ∃ n, w' = w.drewN n) (md := .any) hB.1 l 0 (Array.replicate l.toArray.size false) a (by simp) (by simpa using hB.2) h
  have h3 := wpAny_then (Q' := Q') hL (fun a w' hw' hq K hK => hq w' hw' K hK) l.length _ a { w with drawn := w.drawn + 1 } (by simp) ⟨1, rfl⟩ h2
  rw [Array.size_push, List.size_toArray]
  rw [show Array.replicate (l.length + 1) false = (Array.replicate l.toArray.size false).push false from by simp [Array.replicate_succ]]
  exact h3
end
end Go.Proofs.YtklpopmjpgdjnaaGreatDoor
namespace Go.Proofs.YtklpopmjpgdjnaaGreatDoor
open Go.RowKit

/-- o comes up behind all of ops alone: each is named by it, or by one that stands behind -/
def lastB2 (md : Region.Mode) (ops : Array Oper) (o : Oper) : Bool :=
  ((List.range ops.size).all fun i => (o.after.any fun e => Region.binds md e && e.on == i) || ((List.range ops.size).any fun j => decide (i < j) && match ops[j]? with | some oj => oj.after.any fun e => Region.binds md e && e.on == i | none => false)) && (o.after.all fun e => decide (e.on < ops.size)) && o.guard.isNone &&
    (List.range ops.size).all fun i => match ops[i]? with
      | some oi => (oi.after.all fun e => decide (e.on < i)) && (match oi.guard with | none => true | some (g, _) => decide (g < ops.size))
      | none => true
/-- what is listed has all that it names listed -/
def Inv2 (md : Region.Mode) (ops : Array Oper) (listed : Array Bool) : Prop := ∀ j oj, ops[j]? = some oj → listed.getD j true = true → ∀ e ∈ oj.after, Region.binds md e = true → e.on < ops.size → listed.getD e.on true = true

section
variable {P : Program} {md : Region.Mode} {ops : Array Oper} {o : Oper} {C : World → Prop} {Q : Act → Prop} {Q' : Exit → Act → World → Prop}

theorem qOp_push2 {i : Nat} {K : Act → Prop} {a : Act} (hi : i < ops.size) (hL : lastB2 md ops o = true) (h : qOp P ops C i K a) : qOp P (ops.push o) C i K a := by
  have h0 : ops[i]? = some ops[i] := Array.getElem?_eq_getElem hi
  unfold qOp at *
  rw [Array.getElem?_push, if_neg (by omega)]
  simp only [h0] at h ⊢
  have hw : Region.wanted ops[i] (yielded (ops.push o) a.tmps) = Region.wanted ops[i] (yielded ops a.tmps) := by
    unfold Region.wanted
    cases hg : ops[i].guard with
    | none => rfl
    | some p =>
      obtain ⟨g, b⟩ := p
      simp only [lastB2, Bool.and_eq_true, List.all_eq_true, List.mem_range] at hL
      have h3 := hL.2 i hi
      rw [h0] at h3
      simp only [hg, Bool.and_eq_true, decide_eq_true_eq] at h3
      simp only [yielded]
      rw [Array.getElem?_push, if_neg (by omega)]
  rw [hw]
  exact h

theorem ready_some2 (hL : lastB2 md ops o = true) (listed : Array Bool) (hs : listed.size = ops.size) (hA : ¬ ∀ i, i < ops.size → listed.getD i true = true) : Region.ready md ops listed ≠ [] := by
  simp only [lastB2, Bool.and_eq_true, List.all_eq_true, List.mem_range] at hL
  obtain ⟨i, h1, h2, h3⟩ := least_un ops.size (fun i => listed.getD i true) hA
  have hm : i ∈ Region.ready md ops listed := by
    have h0 : ops[i]? = some ops[i] := Array.getElem?_eq_getElem h1
    have hwf := hL.2 i h1
    rw [h0] at hwf
    simp only [Bool.and_eq_true] at hwf
    unfold Region.ready
    rw [List.mem_filter, List.mem_range]
    refine ⟨h1, ?_⟩
    rw [h2, h0]
    simp only [Bool.not_false, Bool.true_and, Option.map_some, Option.getD_some]
    rw [Array.all_eq_true']
    intro e he
    have h4 := Array.all_eq_true'.1 hwf.1 e he
    simp only [decide_eq_true_eq] at h4
    have h5 := h3 e.on h4
    simp only [Array.getD_eq_getD_getElem?] at h5 ⊢
    rw [Array.getElem?_eq_getElem (by omega)] at h5 ⊢
    simp only [Option.getD_some] at h5 ⊢
    rw [h5, Bool.or_true]
  intro h
  rw [h] at hm
  cases hm
theorem wpAny_last2 (hL : lastB2 md ops o = true) (hQ : ∀ a w, C w → Q a → ∀ K : Act → World → Prop, (∀ a w, Q' .normal a w → K a w) → o.wp P a w K Q')
    (fuel : Nat) (listed : Array Bool) (a : Act) (w : World) (hs : listed.size = ops.size) (hw : C w) (hA : ∀ i, i < ops.size → listed.getD i true = true) (h : Q a) : wpAny P md (ops.push o) Q' (fuel + 1) (listed.push false) a w := by
  simp only [lastB2, Bool.and_eq_true, List.all_eq_true, List.mem_range] at hL
  obtain ⟨⟨⟨_, hlt⟩, hgd⟩, _⟩ := hL
  have hr : Region.ready md (ops.push o) (listed.push false) = [ops.size] := by
    rw [ready_push _ _ _ _ hs, ready_all md ops listed hA, if_pos, List.nil_append]
    rw [Array.all_eq_true']
    intro e he
    have h1 := Array.all_eq_true'.1 hlt e he
    simp only [decide_eq_true_eq] at h1
    have h2 := hA e.on h1
    simp only [Array.getD_eq_getD_getElem?] at h2 ⊢
    rw [Array.getElem?_eq_getElem (by omega)] at h2 ⊢
    simp only [Option.getD_some] at h2 ⊢
    rw [h2, Bool.or_true]
  refine ⟨fun h0 => (by rw [hr] at h0; cases h0), fun i hi => ?_⟩
  rw [hr] at hi
  obtain rfl : i = ops.size := by simpa using hi
  unfold wpOp
  rw [Array.getElem?_push, if_pos rfl]
  have hwt : Region.wanted o (yielded (ops.push o) a.tmps) = true := by
    unfold Region.wanted
    rw [Option.isNone_iff_eq_none.1 hgd]
  simp only [hwt, if_true]
  refine .inl (hQ a w hw h _ fun a' w' hn => wpAny_done (ready_all _ _ _ fun i hi => ?_) hn fuel)
  rw [Array.size_push] at hi
  simp only [Array.getD_eq_getD_getElem?, Array.getElem?_setIfInBounds, Array.getElem?_push, Array.size_push]
  by_cases h1 : ops.size = i
  · subst h1
    rw [if_pos rfl, if_pos (by omega)]; rfl
  · rw [if_neg h1, if_neg (by omega)]
    have h2 := hA i (by omega)
    simpa only [Array.getD_eq_getD_getElem?] using h2

theorem wpAny_then2 (hL : lastB2 md ops o = true) (hQ : ∀ a w, C w → Q a → ∀ K : Act → World → Prop, (∀ a w, Q' .normal a w → K a w) → o.wp P a w K Q') :
    ∀ (fuel : Nat) (listed : Array Bool) (a : Act) (w : World), listed.size = ops.size → Inv2 md ops listed → C w → wpAnyQ P md ops C Q fuel listed a → wpAny P md (ops.push o) Q' (fuel + 1) (listed.push false) a w := by
  have hL0 := hL
  simp only [lastB2, Bool.and_eq_true, List.all_eq_true, List.mem_range] at hL
  obtain ⟨⟨⟨hall, _⟩, _⟩, _⟩ := hL
  intro fuel
  induction fuel with
  | zero =>
    intro listed a w hs hI hw h
    by_cases hA : ∀ i, i < ops.size → listed.getD i true = true
    · exact wpAny_last2 hL0 hQ 0 listed a w hs hw hA h.2
    · exact absurd h.1 (ready_some2 hL0 listed hs hA)
  | succ fuel ih =>
    intro listed a w hs hI hw h
    by_cases hA : ∀ i, i < ops.size → listed.getD i true = true
    · exact wpAny_last2 hL0 hQ (fuel + 1) listed a w hs hw hA (h.1 (ready_all md ops listed hA))
    · have hne := ready_some2 hL0 listed hs hA
      have hr : Region.ready md (ops.push o) (listed.push false) = Region.ready md ops listed := by
        rw [ready_push _ _ _ _ hs, if_neg, List.append_nil]
        intro hh
        apply hA
        have key : ∀ n i, ops.size - i ≤ n → i < ops.size → listed.getD i true = true := by
          intro n
          induction n with
          | zero => intro i h1 h2; omega
          | succ n ihn =>
            intro i h1 h2
            rcases Bool.or_eq_true _ _ ▸ hall i h2 with hx | hx
            · obtain ⟨e, he, hb⟩ := Array.any_eq_true'.1 hx
              simp only [Bool.and_eq_true, beq_iff_eq] at hb
              have := Array.all_eq_true'.1 hh e he
              rw [hb.1, hb.2] at this
              simp only [Bool.not_true, Bool.false_or] at this
              simp only [Array.getD_eq_getD_getElem?] at this ⊢
              rw [Array.getElem?_eq_getElem (by omega)] at this ⊢
              exact this
            · obtain ⟨j, hj, hx⟩ := List.any_eq_true.1 hx
              have hj := List.mem_range.1 hj
              simp only [Bool.and_eq_true, decide_eq_true_eq] at hx
              obtain ⟨hij, hx⟩ := hx
              rw [Array.getElem?_eq_getElem hj] at hx
              simp only at hx
              obtain ⟨e, he, hb⟩ := Array.any_eq_true'.1 hx
              simp only [Bool.and_eq_true, beq_iff_eq] at hb
              have := hI j _ (Array.getElem?_eq_getElem hj) (ihn j (by omega) hj) e he hb.1 (by omega)
              rw [hb.2] at this
              exact this
        exact fun i hi => key _ i (Nat.le_refl _) hi
      refine ⟨fun h0 => absurd (hr ▸ h0) hne, fun i hi => ?_⟩
      rw [hr] at hi
      have hil : i < ops.size := List.mem_range.1 (List.mem_filter.1 hi).1
      have hset : (listed.push false).setIfInBounds i true = (listed.setIfInBounds i true).push false := by
        apply Array.ext_getElem?
        intro j
        simp only [Array.getElem?_push, Array.getElem?_setIfInBounds, Array.size_push, Array.size_setIfInBounds]
        by_cases hj : j = listed.size
        · rw [if_pos hj, if_neg (by omega), if_pos hj]
        · rw [if_neg hj, if_neg hj]
          by_cases hij : i = j
          · rw [if_pos hij, if_pos hij, if_pos (by omega), if_pos (by omega)]
          · rw [if_neg hij, if_neg hij]
      rw [hset]
      have hI2 : Inv2 md ops (listed.setIfInBounds i true) := by
        have hup : ∀ k, listed.getD k true = true → (listed.setIfInBounds i true).getD k true = true := by
          intro k hk
          simp only [Array.getD_eq_getD_getElem?, Array.getElem?_setIfInBounds] at hk ⊢
          split
          · split <;> rfl
          · exact hk
        intro j oj hj hlj e he hb hlt
        by_cases hji : j = i
        · subst hji
          have hrd := (List.mem_filter.1 hi).2
          simp only [Bool.and_eq_true] at hrd
          have h3 := hrd.2
          rw [hj] at h3
          simp only [Option.map_some, Option.getD_some] at h3
          have h4 := Array.all_eq_true'.1 h3 e he
          rw [hb] at h4
          simp only [Bool.not_true, Bool.false_or] at h4
          apply hup
          simp only [Array.getD_eq_getD_getElem?] at h4 ⊢
          rw [Array.getElem?_eq_getElem (by omega)] at h4 ⊢
          exact h4
        · refine hup _ (hI j oj hj ?_ e he hb hlt)
          simp only [Array.getD_eq_getD_getElem?, Array.getElem?_setIfInBounds] at hlj ⊢
          rw [if_neg (fun x => hji x.symm)] at hlj
          exact hlj
      exact wpOp_of_qOp hw (fun a' w' hw' hh => ih _ _ _ (by rw [Array.size_setIfInBounds]; exact hs) hI2 hw' hh) (qOp_push2 hil hL0 (h.2 i hi))
theorem wp_region_then2 {id k : Nat} {a : Act} {w : World} {ops : List Oper} (l : List Oper) (o : Oper) (hl : ops.take k = l) (ho : ops[k]? = some o) (hk : ops.length = k + 1) (hm : P.follows .mixedOrders = true) (hB : Region.lexB .any l.toArray = true) (hL : lastB2 .any l.toArray o = true)
    (h : wpQuiet P l.toArray (fun w' => ∃ n, w' = w.drewN n) (fun a' => ∀ w', (∃ n, w' = w.drewN n) → ∀ K : Act → World → Prop, (∀ a w, Q' .normal a w → K a w) → o.wp P a' w' K Q') l a) : (Code.region id ops.toArray true).wp P Q' a w := by
  have he : ops.toArray = l.toArray.push o := by
    rw [List.push_toArray, ← hl]
    congr 1
    apply List.ext_getElem?
    intro i
    rw [List.getElem?_append, List.length_take, List.getElem?_take]
    by_cases h1 : i < k
    · rw [if_pos (by omega), if_pos h1]
    · rw [if_neg (by omega)]
      by_cases h2 : i = k
      · subst h2
        rw [ho, show i - min i ops.length = 0 from by omega]; rfl
      · rw [List.getElem?_eq_none (by omega), List.getElem?_eq_none (by simp; omega)]
  rw [he]
  have hlen : l.length = k := by rw [← hl, List.length_take]; omega
  simp only [Region.lexB, Bool.and_eq_true] at hB
  refine wp_region_any hm ?_
  have h2 := wpAnyQ_lex (C := fun w' => ∃ n, w' = w.drewN n) (md := .any) hB.1 l 0 (Array.replicate l.toArray.size false) a (by simp) (by simpa using hB.2) h
  have hI0 : Inv2 .any l.toArray (Array.replicate l.toArray.size false) := by
    intro j oj hj hlj
    have hjl : j < l.toArray.size := (Array.getElem?_eq_some_iff.1 hj).1
    simp only [Array.getD_eq_getD_getElem?] at hlj
    rw [Array.getElem?_eq_getElem (by simpa using hjl)] at hlj
    simp at hlj
  have h3 := wpAny_then2 (Q' := Q') hL (fun a w' hw' hq K hK => hq w' hw' K hK) l.length _ a { w with drawn := w.drawn + 1 } (by simp) hI0 ⟨1, rfl⟩ h2
  rw [Array.size_push, List.size_toArray]
  rw [show Array.replicate (l.length + 1) false = (Array.replicate l.toArray.size false).push false from by simp [Array.replicate_succ]]
  exact h3
end
end Go.Proofs.YtklpopmjpgdjnaaGreatDoor
namespace Go.Proofs.YtklpopmjpgdjnaaGreatDoor
open Go.RowKit

theorem ld_part {P : Program} {w : World} {g o n : Nat} {cs : List Value} (h : ∀ j v, cs[j]? = some v → w.cell? ⟨g, o + j, none⟩ = some v) (hn : cs.length = n) : (loadCellsFrom ⟨g, o, none⟩ 0 n #[]).run P w = .ok cs.toArray w := by
  subst hn
  exact run_loadCells_list (P := P) w ⟨g, o, none⟩ cs (fun j v hv => by rw [Addr.add_mid]; exact h j v hv)
theorem ld_row {P : Program} {w : World} {g n : Nat} {T : TypeId} {cs : List Value} (hg : w.heap[g]? = some (.cells cs.toArray T (0, 0))) (hn : cs.length = n) : (loadCellsFrom ⟨g, 0, none⟩ 0 n #[]).run P w = .ok cs.toArray w :=
  ld_part (fun j v hv => by rw [Nat.zero_add, cell_of hg, List.getElem?_toArray]; exact hv) hn
theorem mod_setRow (w : World) (g : Nat) (cs : Array Value) : Mod (· = g) w (w.setRow g cs) :=
  ⟨rfl, rfl, rfl, by show w.heap.size ≤ (w.heap.modify g _).size; rw [Array.size_modify]; exact Nat.le_refl _, fun k _ hne => by
    show (w.heap.modify g _)[k]? = _
    rw [Array.getElem?_modify, if_neg (fun e => hne e.symm)]⟩
theorem st_part {P : Program} (w : World) (g o : Nat) (T : TypeId) (vs : List Value) (cur : Array Value) (hg : w.heap[g]? = some (.cells cur T (0, 0))) (hl : o + vs.length ≤ cur.size) (h1 : ∀ v ∈ vs, v.oneCell' = true) :
    ∃ w', (storeCells ⟨g, o, none⟩ vs 0).run P w = .ok () w' ∧ w'.heap[g]? = some (.cells (cur.toList.take o ++ vs ++ cur.toList.drop (o + vs.length)).toArray T (0, 0)) ∧ Mod (· = g) w w' :=
  ⟨_, run_storeCells_at P g o T vs 0 cur w hg (by omega) h1, setRow_heap w g cur _ T _ hg, mod_setRow w g _⟩
theorem st_row {P : Program} (w : World) (g : Nat) (T : TypeId) (vs : List Value) (cur : Array Value) (hg : w.heap[g]? = some (.cells cur T (0, 0))) (hl : vs.length = cur.size) (h1 : ∀ v ∈ vs, v.oneCell' = true) :
    ∃ w', (storeCells ⟨g, 0, none⟩ vs 0).run P w = .ok () w' ∧ w'.heap[g]? = some (.cells vs.toArray T (0, 0)) ∧ Mod (· = g) w w' := by
  obtain ⟨w', h2, h3, h4⟩ := st_part (P := P) w g 0 T vs cur hg (by omega) h1
  refine ⟨w', h2, ?_, h4⟩
  rw [h3, List.take_zero, List.nil_append, List.drop_of_length_le (by rw [Array.length_toList]; omega), List.append_nil]
end Go.Proofs.YtklpopmjpgdjnaaGreatDoor
namespace Go.Proofs.YtklpopmjpgdjnaaGreatDoor
open Go.RowKit

/-- a whole struct stored, as an operation -/
theorem wpl_store_row {P : Program} {w : World} {ops : Array Oper} {rest : List Oper} {op : Oper} {a : Act} {Q : Exit → Act → World → Prop} (hgd : op.guard = none) (ty : TypeId) (x y : Operand) (ho : op.op = .store ty x y) (hd : op.dst = none)
    (g : Nat) (vs : List Value) (hx : a.eval x = .pointer (some ⟨g, 0, none⟩)) (hy : a.eval y = .agg vs.toArray) (T : TypeId) (cur : Array Value) (hg : w.heap[g]? = some (.cells cur T (0, 0))) (hl : vs.length = cur.size) (h1 : ∀ v ∈ vs, v.oneCell' = true) (hi : (P.info? ty).map (·.size) = some vs.length)
    (h : ∀ w', w'.heap[g]? = some (.cells vs.toArray T (0, 0)) → Mod (· = g) w w' → wpList P ops Q rest a w') : wpList P ops Q (op :: rest) a w := by
  refine wpList_plain hgd fun K hK => wp_store_row ty x y ho g vs.toArray hx hy T cur hg (by simpa using hi) (by simpa using hl.symm) (by rw [Array.all_eq_true_iff_forall_mem]; intro v hv; exact h1 v (by simpa using hv)) ?_
  refine hK _ _ ?_
  rw [hd]
  exact h _ (setRow_heap w g cur _ T _ hg) (mod_setRow w g _)
end Go.Proofs.YtklpopmjpgdjnaaGreatDoor
