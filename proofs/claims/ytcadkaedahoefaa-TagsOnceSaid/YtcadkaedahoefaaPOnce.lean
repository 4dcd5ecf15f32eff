/- TagsOnce's plain law: whoever waits is told once. -/
import Derived.Test.YtcadkaedahoefaaLawAsk
import Derived.Test.YtcadkaedahoefaaRefEnd
import Derived.Test.YtcadkaedahoefaaFidWorks
namespace Go.Proofs.Ytcadkaedahoefaa
open Go.RowKit

/-- a row of one-cell elements, by a function -/
def mrow (f : Nat → Value) (n : Nat) : List Value := (List.range n).map f
theorem mrow_get (f : Nat → Value) (n j : Nat) (h : j < n) : (mrow f n)[j]? = some (f j) := by simp [mrow, List.getElem?_range h]
theorem mrow_zero (z : Value) (n : Nat) : List.replicate n z = mrow (fun _ => z) n := by
  apply List.ext_getElem?
  intro j
  by_cases h : j < n
  · rw [mrow_get _ _ _ h, List.getElem?_replicate, if_pos h]
  · rw [List.getElem?_eq_none (by simp; omega), List.getElem?_eq_none (by simp [mrow]; omega)]
theorem mrow_set (f f' : Nat → Value) (n j : Nat) (x : Value) (hj : j < n) (h : ∀ i, f' i = if j = i then x else f i) : (mrow f n).toArray.setIfInBounds j x = (mrow f' n).toArray := by
  apply Array.ext_getElem?
  intro i
  rw [Array.getElem?_setIfInBounds, List.getElem?_toArray, List.getElem?_toArray]
  by_cases hi : i < n
  · rw [mrow_get _ _ _ hi, mrow_get _ _ _ hi, h]
    by_cases e : j = i
    · rw [if_pos e, if_pos e, if_pos (by simp [mrow]; omega)]
    · rw [if_neg e, if_neg e]
  · rw [if_neg (by omega), List.getElem?_eq_none (by simp [mrow]; omega), List.getElem?_eq_none (by simp [mrow]; omega)]

theorem mem_toldL {tag x : Nat} {L : List (Nat × Nat)} : x ∈ toldL tag L ↔ (x, tag) ∈ L ∧ x ≠ tag := by
  unfold toldL
  rw [List.mem_map]
  constructor
  · rintro ⟨⟨a, b⟩, h, rfl⟩
    rw [List.mem_filter] at h
    obtain ⟨h1, h2⟩ := h
    unfold toldS at h2
    rw [Bool.and_eq_true, decide_eq_true_eq, decide_eq_true_eq] at h2
    obtain ⟨h2, h3⟩ := h2
    simp only at h2 h3
    subst h2
    exact ⟨h1, h3⟩
  · rintro ⟨h, hn⟩
    refine ⟨(x, tag), List.mem_filter.2 ⟨h, ?_⟩, rfl⟩
    unfold toldS
    rw [Bool.and_eq_true, decide_eq_true_eq, decide_eq_true_eq]
    exact ⟨rfl, hn⟩
theorem mem_leftS {tag : Nat} {p : Nat × Nat} {L : List (Nat × Nat)} : p ∈ leftS tag L ↔ p ∈ L ∧ p.1 ≠ tag ∧ p.2 ≠ tag := by
  unfold leftS
  rw [List.mem_filter]
  unfold goneS
  by_cases h1 : p.1 = tag <;> by_cases h2 : p.2 = tag <;> simp [h1, h2]
theorem mem_dropL {tag x : Nat} {L : List Nat} : x ∈ dropL tag L ↔ x ∈ L ∧ x ≠ tag := by
  unfold dropL
  rw [List.mem_filter, decide_eq_true_eq]
theorem nodup_map_filter {α β : Type} {f : α → β} {p : α → Bool} {L : List α} (h : (L.map f).Nodup) : ((L.filter p).map f).Nodup :=
  (List.filter_sublist.map f).nodup h

/-- while the first i have said for whom they wait -/
structure FOnce (n : Nat) (ws : Nat → Nat) (i : Nat) (s : TS) : Prop where
  l : ∀ x, x ∈ s.l ↔ x < n
  ll : s.l.length ≤ n
  w : ∀ p, p ∈ s.w ↔ (p.1 < i ∧ p.2 = ws p.1 ∧ p.2 < n ∧ p.2 ≠ p.1)
  wn : (s.w.map Prod.fst).Nodup
  wl : s.w.length ≤ i
theorem FOnce.start (n : Nat) (ws : Nat → Nat) (m : Int) : FOnce n ws 0 ⟨List.range n, [], m⟩ :=
  ⟨fun x => List.mem_range, by simp, fun p => by simp, List.nodup_nil, Nat.zero_le _⟩
theorem FOnce.step {n i : Nat} {ws : Nat → Nat} {s : TS} (h : FOnce n ws i s) (hi : i < n) :
    (flushS s i (ws i)).2 = (decide (ws i < n) && !decide (ws i = i), 0) ∧ FOnce n ws (i + 1) (flushS s i (ws i)).1 := by
  have h1 : inL s.l i = true := inL_true.2 ((h.l i).2 hi)
  unfold flushS
  rw [h1, if_neg (by decide)]
  by_cases hx : i = ws i ∨ inL s.l (ws i) = false
  · rw [if_pos hx]
    have hy : ¬ (ws i < n ∧ ws i ≠ i) := by
      rintro ⟨a, b⟩
      rcases hx with e | e
      · exact b e.symm
      · exact inL_false.1 e ((h.l _).2 a)
    refine ⟨?_, h.l, h.ll, fun p => ?_, h.wn, by have := h.wl; show s.w.length ≤ _; omega⟩
    · show (false, (0 : Int)) = _
      have : (decide (ws i < n) && !decide (ws i = i)) = false := by
        rw [Bool.eq_false_iff]
        intro e
        rw [Bool.and_eq_true, decide_eq_true_eq, Bool.not_eq_true', decide_eq_false_iff_not] at e
        exact hy e
      rw [this]
    · show p ∈ s.w ↔ _
      rw [h.w]
      constructor
      · rintro ⟨a, b⟩; exact ⟨by omega, b⟩
      · rintro ⟨a, b, c, d⟩
        refine ⟨?_, b, c, d⟩
        by_cases e : p.1 = i
        · rw [e] at b d; exact absurd ⟨b ▸ c, b ▸ d⟩ hy
        · omega
  · rw [if_neg hx]
    have h3 : ws i ≠ i := fun e => hx (Or.inl e.symm)
    have h4 : ws i < n := (h.l _).1 (inL_true.1 (by cases hq : inL s.l (ws i) with | true => rfl | false => exact absurd (Or.inr hq) hx))
    refine ⟨?_, h.l, h.ll, fun p => ?_, ?_, ?_⟩
    · show (true, (0 : Int)) = _
      simp [h3, h4]
    · show p ∈ s.w ++ [(i, ws i)] ↔ _
      rw [List.mem_append, h.w, List.mem_singleton]
      constructor
      · rintro (⟨a, b⟩ | rfl)
        · exact ⟨by omega, b⟩
        · exact ⟨by show i < _; omega, rfl, h4, h3⟩
      · rintro ⟨a, b, c, d⟩
        by_cases e : p.1 = i
        · right
          obtain ⟨p1, p2⟩ := p
          simp only at e b
          subst e
          rw [b]
        · left; exact ⟨by omega, b, c, d⟩
    · show ((s.w ++ [(i, ws i)]).map Prod.fst).Nodup
      rw [List.map_append, List.nodup_append]
      refine ⟨h.wn, by simp, fun a ha b hb => ?_⟩
      obtain rfl : b = i := by simpa using hb
      obtain ⟨p, hp, rfl⟩ := List.mem_map.1 ha
      have := ((h.w p).1 hp).1
      omega
    · show (s.w ++ [(i, ws i)]).length ≤ _
      have := h.wl
      simp; omega
/-- x is to be told by now -/
def mustT (n : Nat) (ws : Nat → Nat) (E : Nat → Bool) (x : Nat) : Prop := ws x < n ∧ ws x ≠ x ∧ E (ws x) = true
/-- while they end: who is told -/
structure POnce (n : Nat) (ws : Nat → Nat) (s : TS) (E : Nat → Bool) (τ : Nat → Int) : Prop where
  l : ∀ x, x ∈ s.l ↔ (x < n ∧ E x = false)
  ll : s.l.length ≤ n
  w : ∀ p, p ∈ s.w ↔ (p.1 < n ∧ p.2 = ws p.1 ∧ p.2 < n ∧ p.2 ≠ p.1 ∧ E p.1 = false ∧ E p.2 = false)
  wn : (s.w.map Prod.fst).Nodup
  wl : s.w.length ≤ n
  t0 : ∀ x, τ x = 0 ∨ τ x = 1
  t1 : ∀ x, τ x = 1 → mustT n ws E x
  t2 : ∀ x, x < n → mustT n ws E x → E x = false → τ x = 1
theorem FOnce.done {n : Nat} {ws : Nat → Nat} {s : TS} (h : FOnce n ws n s) : POnce n ws s (fun _ => false) (fun _ => 0) where
  l x := by rw [h.l]; simp
  ll := h.ll
  w p := by rw [h.w]; simp
  wn := h.wn
  wl := h.wl
  t0 _ := Or.inl rfl
  t1 x e := by simp at e
  t2 x _ hm _ := by have := hm.2.2; simp at this
theorem POnce.none {n k : Nat} {ws : Nat → Nat} {s : TS} {E : Nat → Bool} {τ : Nat → Int} (h : POnce n ws s E τ) (hk : n ≤ k ∨ E k = true) : endS s k = (s, [], 5) := by
  unfold endS
  rw [if_pos]
  rw [inL_false]
  intro hm
  obtain ⟨a, b⟩ := (h.l k).1 hm
  rcases hk with e | e
  · omega
  · rw [e] at b; cases b
def updE (E : Nat → Bool) (k : Nat) (i : Nat) : Bool := if k = i then true else E i
def updT (τ : Nat → Int) (L : List Nat) (m : Nat) (i : Nat) : Int := if i ∈ L.take m then 1 else τ i
theorem updT_zero (τ : Nat → Int) (L : List Nat) : updT τ L 0 = τ := funext fun i => by simp [updT]
structure ToldOK (n k : Nat) (ws : Nat → Nat) (E : Nat → Bool) (τ : Nat → Int) (L : List Nat) : Prop where
  len : L.length ≤ n
  at_ : ∀ (m : Nat) (h : m < L.length), L[m] < n ∧ updE E k L[m] = false ∧ ws L[m] = k ∧ updT τ L m L[m] = 0
  step : ∀ (m : Nat) (h : m < L.length), ∀ i, updT τ L (m + 1) i = if L[m] = i then 1 else updT τ L m i
theorem POnce.fin {n k : Nat} {ws : Nat → Nat} {s : TS} {E : Nat → Bool} {τ : Nat → Int} (h : POnce n ws s E τ) (hk : k < n) (hE : E k = false) :
    ∃ s' L, endS s k = (s', L, 0) ∧ ToldOK n k ws E τ L ∧ POnce n ws s' (updE E k) (updT τ L L.length) := by
  refine ⟨⟨dropL k s.l, leftS k s.w, s.most⟩, toldL k s.w, ?_, ?_⟩
  · unfold endS
    rw [if_neg (by rw [inL_true.2 ((h.l k).2 ⟨hk, hE⟩)]; decide)]
  have hmem : ∀ x, x ∈ toldL k s.w ↔ (x < n ∧ ws x = k ∧ x ≠ k ∧ E x = false) := fun x => by
    rw [mem_toldL, h.w]
    constructor
    · rintro ⟨⟨a, b, c, d, e, f⟩, g⟩; exact ⟨a, b.symm, g, e⟩
    · rintro ⟨a, b, c, d⟩; exact ⟨⟨a, b.symm, hk, Ne.symm c, d, hE⟩, c⟩
  have hnd : (toldL k s.w).Nodup := nodup_map_filter h.wn
  have hz : ∀ x, ws x = k → τ x = 0 := fun x e => by
    rcases h.t0 x with e1 | e1
    · exact e1
    · have := (h.t1 x e1).2.2
      rw [e, hE] at this
      cases this
  have hlen : (toldL k s.w).length ≤ n := by
    unfold toldL
    rw [List.length_map]
    exact Nat.le_trans (List.length_filter_le _ _) h.wl
  generalize toldL k s.w = L at hmem hnd hlen ⊢
  have hU : ∀ x, updT τ L L.length x = if x ∈ L then 1 else τ x := fun x => by unfold updT; rw [List.take_length]
  refine ⟨⟨hlen, fun m hm => ?_, fun m hm i => ?_⟩, ?_⟩
  · obtain ⟨a, b, c, d⟩ := (hmem L[m]).1 (List.getElem_mem hm)
    refine ⟨a, ?_, b, ?_⟩
    · unfold updE; rw [if_neg (Ne.symm c)]; exact d
    · unfold updT
      rw [if_neg, hz _ b]
      intro hx
      obtain ⟨j, hj, hjx⟩ := List.getElem_of_mem hx
      rw [List.length_take] at hj
      rw [List.getElem_take] at hjx
      exact (List.pairwise_iff_getElem.1 hnd) j m (by omega) hm (by omega) hjx
  · unfold updT
    rw [List.take_succ_eq_append_getElem hm]
    by_cases e : L[m] = i
    · rw [if_pos e, if_pos]
      rw [List.mem_append]; right; rw [List.mem_singleton]; exact e.symm
    · rw [if_neg e]
      have : i ∈ L.take m ++ [L[m]] ↔ i ∈ L.take m := by
        rw [List.mem_append, List.mem_singleton]
        exact ⟨fun x => x.elim id (fun x => absurd x.symm e), Or.inl⟩
      by_cases e2 : i ∈ L.take m
      · rw [if_pos (this.2 e2), if_pos e2]
      · rw [if_neg (fun x => e2 (this.1 x)), if_neg e2]
  · have hmono : ∀ x, E x = true → updE E k x = true := fun x e => by unfold updE; split <;> simp_all
    have hfalse : ∀ x, updE E k x = false ↔ (x ≠ k ∧ E x = false) := fun x => by
      unfold updE
      by_cases e : k = x
      · rw [if_pos e]; simp [e]
      · rw [if_neg e]; exact ⟨fun y => ⟨Ne.symm e, y⟩, fun y => y.2⟩
    refine ⟨fun x => ?_, ?_, fun p => ?_, nodup_map_filter h.wn, ?_, fun x => ?_, fun x e => ?_, fun x hx hm hf => ?_⟩
    · show x ∈ dropL k s.l ↔ _
      rw [mem_dropL, h.l, hfalse]
      constructor
      · rintro ⟨⟨a, b⟩, c⟩; exact ⟨a, c, b⟩
      · rintro ⟨a, c, b⟩; exact ⟨⟨a, b⟩, c⟩
    · exact Nat.le_trans (List.length_filter_le _ _) h.ll
    · show p ∈ leftS k s.w ↔ _
      rw [mem_leftS, h.w, hfalse, hfalse]
      constructor
      · rintro ⟨⟨a, b, c, d, e, f⟩, g, i⟩; exact ⟨a, b, c, d, ⟨g, e⟩, i, f⟩
      · rintro ⟨a, b, c, d, ⟨g, e⟩, i, f⟩; exact ⟨⟨a, b, c, d, e, f⟩, g, i⟩
    · exact Nat.le_trans (List.length_filter_le _ _) h.wl
    · rw [hU]; split
      · exact Or.inr rfl
      · exact h.t0 x
    · rw [hU] at e
      by_cases hx : x ∈ L
      · obtain ⟨a, b, c, d⟩ := (hmem x).1 hx
        exact ⟨b ▸ hk, fun e => c (by rw [← b]; exact e.symm), by rw [b]; unfold updE; rw [if_pos rfl]⟩
      · rw [if_neg hx] at e
        obtain ⟨a, b, c⟩ := h.t1 x e
        exact ⟨a, b, hmono _ c⟩
    · rw [hU]
      obtain ⟨hxk, hxE⟩ := (hfalse x).1 hf
      by_cases hw : ws x = k
      · rw [if_pos ((hmem x).2 ⟨hx, hw, hxk, hxE⟩)]
      · split
        · rfl
        · refine h.t2 x hx ⟨hm.1, hm.2.1, ?_⟩ hxE
          have := hm.2.2
          unfold updE at this
          rwa [if_neg (Ne.symm hw)] at this
theorem begin_range (i n : Nat) (hi : i < n) (hn : n ≤ 32) : beginS ⟨List.range i, [], 32⟩ i = (⟨List.range (i + 1), [], 32⟩, 0) := by
  unfold beginS
  rw [if_neg (by omega), if_neg (by rw [inL_false.2 (by simp)]; decide), if_neg (by simp; omega), List.range_succ]
/-- tags, told and ended, as they lie while they end -/
structure OW (w W : World) (b bt be n : Nat) (s : TS) (E : Nat → Bool) (τ : Nat → Int) (F : Nat → Prop) : Prop where
  c : TagsAt 74 W F b s
  fb : ∀ k, F k → w.heap.size ≤ k
  nt : ¬ F bt
  ne : ¬ F be
  tb : w.heap.size ≤ bt
  eb : w.heap.size ≤ be
  te : bt ≠ be
  T : W.heap[bt]? = some (.cells (mrow (fun x => .int .i64 (τ x)) n).toArray 3 (0, 0))
  En : W.heap[be]? = some (.cells (mrow (fun x => .bool (E x)) n).toArray 4 (0, 0))
  m : Mod (fun _ => False) w W
theorem OW.mod {w W W' : World} {b bt be n : Nat} {s : TS} {E : Nat → Bool} {τ : Nat → Int} {F : Nat → Prop} (h : OW w W b bt be n s E τ F) (hm : Mod (fun _ => False) W W') : OW w W' b bt be n s E τ F :=
  ⟨h.c.mod hm (fun _ x => x.elim), h.fb, h.nt, h.ne, h.tb, h.eb, h.te, (hm.block _ (lt_of h.T) id).trans h.T, (hm.block _ (lt_of h.En) id).trans h.En, h.m.trans hm⟩
theorem OW.step {w W W' : World} {b bt be n : Nat} {s s' : TS} {E : Nat → Bool} {τ : Nat → Int} {F F' : Nat → Prop} (h : OW w W b bt be n s E τ F) (g : TagsAt 74 W' F' b s') (q : Mod F W W') (k : Grows W F F') : OW w W' b bt be n s' E τ F' := by
  have h1 := lt_of h.T
  have h2 := lt_of h.En
  exact ⟨g, k.above h.fb h.m.size, fun x => (k bt x).elim h.nt (fun y => by omega), fun x => (k be x).elim h.ne (fun y => by omega), h.tb, h.eb, h.te, (q.block _ h1 h.nt).trans h.T, (q.block _ h2 h.ne).trans h.En, h.m.trans' q fun k hk x => by have := h.fb k x; omega⟩
theorem OW.setT {w W : World} {b bt be n : Nat} {s : TS} {E : Nat → Bool} {τ : Nat → Int} {F : Nat → Prop} (h : OW w W b bt be n s E τ F) (j : Nat) (hj : j < n) (x : Int) (τ' : Nat → Int) (ht : ∀ i, τ' i = if j = i then x else τ i) : OW w (W.setCell ⟨bt, j, none⟩ (.int .i64 x)) b bt be n s E τ' F := by
  have hm := Mod.set1 W bt j (.int .i64 x)
  refine ⟨h.c.mod hm (fun k e => e ▸ h.nt), h.fb, h.nt, h.ne, h.tb, h.eb, h.te, ?_, (hm.block _ (lt_of h.En) (Ne.symm h.te)).trans h.En, h.m.setCell (p := ⟨bt, j, none⟩) (Or.inr h.tb) _⟩
  rw [heap_set h.T, mrow_set _ (fun y => .int .i64 (τ' y)) n j _ hj (fun i => by show Value.int .i64 (τ' i) = _; rw [ht]; split <;> rfl)]
theorem OW.setE {w W : World} {b bt be n : Nat} {s : TS} {E : Nat → Bool} {τ : Nat → Int} {F : Nat → Prop} (h : OW w W b bt be n s E τ F) (j : Nat) (hj : j < n) : OW w (W.setCell ⟨be, j, none⟩ (.bool true)) b bt be n s (updE E j) τ F := by
  have hm := Mod.set1 W be j (.bool true)
  refine ⟨h.c.mod hm (fun k e => e ▸ h.ne), h.fb, h.nt, h.ne, h.tb, h.eb, h.te, (hm.block _ (lt_of h.T) h.te).trans h.T, ?_, h.m.setCell (p := ⟨be, j, none⟩) (Or.inr h.eb) _⟩
  rw [heap_set h.En, mrow_set _ (fun y => .bool (updE E j y)) n j _ hj (fun i => by show Value.bool (updE E j i) = _; unfold updE; split <;> rfl)]
theorem OW.cT {w W : World} {b bt be n : Nat} {s : TS} {E : Nat → Bool} {τ : Nat → Int} {F : Nat → Prop} (h : OW w W b bt be n s E τ F) (j : Nat) (hj : j < n) : W.cell? ⟨bt, j, none⟩ = some (.int .i64 (τ j)) := by
  rw [cell_of h.T, List.getElem?_toArray, mrow_get _ _ _ hj]
theorem OW.cE {w W : World} {b bt be n : Nat} {s : TS} {E : Nat → Bool} {τ : Nat → Int} {F : Nat → Prop} (h : OW w W b bt be n s E τ F) (j : Nat) (hj : j < n) : W.cell? ⟨be, j, none⟩ = some (.bool (E j)) := by
  rw [cell_of h.En, List.getElem?_toArray, mrow_get _ _ _ hj]
theorem info_int : (Try.prog.info? 3).map (fun i => (i.zero, i.size, i.bytes)) = some (some (.int .i64 0), 1, 8) := by kernel_rfl
theorem info_bool : (Try.prog.info? 4).map (fun i => (i.zero, i.size, i.bytes)) = some (some (.bool false), 1, 1) := by kernel_rfl
set_option maxRecDepth 100000 in
open Go.ChangeShapes Go.WideShapes Go.ChangeAt in
theorem arg_u8s {H : Type} {enc : TypeId × Value → H} {W : World} {base : Nat} {v : Value} {d : DataW H} {ps : List MemPlace} (hval : Value.okWide Try.prog W .any base 22 v)
    (h : DataW.Trod enc Try.prog W 0 (fun _ => true) true 22 v d ps) : ∃ l : List Nat, Reads (fun x : Nat => [.int .u8 x]) 1 W v l ∧ ∀ s ∈ l, s < 256 := by
  obtain ⟨a, len, cap, row, rfl, hl, hr⟩ := arg_slice Try.underlying22 (by kernel_rfl : Try.prog.cellsOf 5 = 1) (by decide) hval h
  have hex : ∀ i, ∃ s : Nat, i < len → row i = [.int .u8 s] ∧ s < 256 := fun i => by
    by_cases hi : i < len
    · obtain ⟨h1, _, n, y, hy⟩ := hr i hi
      obtain ⟨c0, hc0⟩ : ∃ c0, row i = [c0] := List.length_eq_one_iff.1 h1
      rw [hc0] at hy ⊢
      obtain ⟨x, e, _, hw⟩ := DataW.trod_int Try.underlying5 hy
      obtain ⟨s, rfl, hs⟩ := wf_lt (m := 255) hw rfl rfl
      obtain rfl : c0 = .int .u8 s := by simpa using e
      exact ⟨s, fun _ => ⟨rfl, by omega⟩⟩
    · exact ⟨0, fun x => absurd x hi⟩
  have hlen : ((List.range len).map fun i => (hex i).choose).length = len := by simp
  refine ⟨(List.range len).map fun i => (hex i).choose, ⟨a, cap, by rw [hlen], by rw [hlen]; exact hl, fun i hi => ?_⟩, fun s hs => ?_⟩
  · rw [hlen] at hi
    obtain ⟨h1, ⟨g, off, ha, hg, hc⟩, _⟩ := hr i hi
    refine ⟨g, off, ha, hg, fun j u hu => ?_⟩
    simp only [List.getElem_map, List.getElem_range] at hu
    rw [← ((hex i).choose_spec hi).1] at hu
    have hj : j < 1 := by have := (List.getElem?_eq_some_iff.1 hu).1; omega
    rw [Nat.add_assoc, hc j hj]
    exact hu
  · obtain ⟨i, hi, rfl⟩ := List.mem_map.1 hs
    exact ((hex i).choose_spec (List.mem_range.1 hi)).2
end Go.Proofs.Ytcadkaedahoefaa
