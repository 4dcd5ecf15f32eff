/- A region that draws its order, of which all but the last operation only read: one walk in the order of the text, then the last one. -/
import Derived.Test.YtcadkaedahoefaaBase
namespace Go.Proofs.Ytcadkaedahoefaa
open Go.RowKit

/-- o comes up behind all of ops alone -/
def lastB (md : Region.Mode) (ops : Array Oper) (o : Oper) : Bool :=
  ((List.range ops.size).all fun i => o.after.any fun e => Region.binds md e && e.on == i) && (o.after.all fun e => decide (e.on < ops.size)) && o.guard.isNone &&
    (List.range ops.size).all fun i => match ops[i]? with
      | some oi => (oi.after.all fun e => decide (e.on < i)) && (match oi.guard with | none => true | some (g, _) => decide (g < ops.size))
      | none => true

theorem getD_push_false (l : Array Bool) (j : Nat) : (l.push false).getD j false = l.getD j false := by
  simp only [Array.getD_eq_getD_getElem?, Array.getElem?_push]
  by_cases h : j = l.size
  · subst h; simp
  · rw [if_neg h]
theorem getD_push_lt (l : Array Bool) (x : Bool) (j : Nat) (d : Bool) (h : j < l.size) : (l.push x).getD j d = l.getD j d := by
  simp only [Array.getD_eq_getD_getElem?, Array.getElem?_push]
  rw [if_neg (by omega)]

theorem ready_push (md : Region.Mode) (ops : Array Oper) (o : Oper) (listed : Array Bool) (hs : listed.size = ops.size) :
    Region.ready md (ops.push o) (listed.push false) = Region.ready md ops listed ++ if (o.after.all fun e => !Region.binds md e || listed.getD e.on false) = true then [ops.size] else [] := by
  unfold Region.ready
  rw [Array.size_push, List.range_succ, List.filter_append]
  congr 1
  · refine List.filter_congr fun i hi => ?_
    have hi' : i < ops.size := List.mem_range.1 hi
    rw [getD_push_lt _ _ _ _ (by omega), Array.getElem?_push, if_neg (by omega)]
    simp only [getD_push_false]
  · rw [List.filter_cons, List.filter_nil, Array.getElem?_push, if_pos rfl]
    have h1 : (listed.push false).getD ops.size true = false := by
      rw [Array.getD_eq_getD_getElem?, Array.getElem?_push, if_pos hs.symm]; rfl
    simp only [getD_push_false, h1, Bool.not_false, Bool.true_and, Option.map_some, Option.getD_some]
theorem ready_all (md : Region.Mode) (ops : Array Oper) (listed : Array Bool) (h : ∀ i, i < ops.size → listed.getD i true = true) : Region.ready md ops listed = [] := by
  unfold Region.ready
  rw [List.filter_eq_nil_iff]
  intro i hi
  rw [h i (List.mem_range.1 hi)]
  simp

section
variable {P : Program} {md : Region.Mode} {ops : Array Oper} {o : Oper} {C : World → Prop} {Q : Act → Prop} {Q' : Exit → Act → World → Prop}

theorem qOp_push {i : Nat} {K : Act → Prop} {a : Act} (hi : i < ops.size) (hL : lastB md ops o = true) (h : qOp P ops C i K a) : qOp P (ops.push o) C i K a := by
  have h0 : ops[i]? = some ops[i] := Array.getElem?_eq_getElem hi
  unfold qOp at *
  rw [Array.getElem?_push, if_neg (by omega)]
  simp only [h0] at h ⊢
  have hw : Region.wanted ops[i] (yielded (ops.push o) a.tmps) = Region.wanted ops[i] (yielded ops a.tmps) := by
    unfold Region.wanted
    cases hg : ops[i].guard with
    | none => rfl
    | some p =>
      obtain ⟨g, b⟩ := p
      simp only [lastB, Bool.and_eq_true, List.all_eq_true, List.mem_range] at hL
      have h3 := hL.2 i hi
      rw [h0] at h3
      simp only [hg, Bool.and_eq_true, decide_eq_true_eq] at h3
      simp only [yielded]
      rw [Array.getElem?_push, if_neg (by omega)]
  rw [hw]
  exact h

theorem least_un : ∀ (n : Nat) (p : Nat → Bool), (¬ ∀ i, i < n → p i = true) → ∃ i, i < n ∧ p i = false ∧ ∀ j, j < i → p j = true
  | 0, _, h => absurd (fun i hi => absurd hi (Nat.not_lt_zero i)) h
  | n + 1, p, h => by
    by_cases h0 : ∀ i, i < n → p i = true
    · refine ⟨n, Nat.lt_succ_self n, ?_, h0⟩
      rw [Bool.eq_false_iff]
      intro hp
      exact h fun i hi => by rcases Nat.lt_succ_iff_lt_or_eq.1 hi with hi | rfl; exact h0 i hi; exact hp
    · obtain ⟨i, h1, h2, h3⟩ := least_un n p h0
      exact ⟨i, by omega, h2, h3⟩
theorem ready_some (hL : lastB md ops o = true) (listed : Array Bool) (hs : listed.size = ops.size) (hA : ¬ ∀ i, i < ops.size → listed.getD i true = true) : Region.ready md ops listed ≠ [] := by
  simp only [lastB, Bool.and_eq_true, List.all_eq_true, List.mem_range] at hL
  obtain ⟨i, h1, h2, h3⟩ := least_un ops.size (fun i => listed.getD i true) hA
  have hm : i ∈ Region.ready md ops listed := by
    have h0 : ops[i]? = some ops[i] := Array.getElem?_eq_getElem h1
    have hwf := hL.2 i h1
    rw [h0] at hwf
    simp only [Bool.and_eq_true] at hwf
    unfold Region.ready
    rw [List.mem_filter, List.mem_range]
    refine ⟨h1, ?_⟩
    rw [h2, h0]
    simp only [Bool.not_false, Bool.true_and, Option.map_some, Option.getD_some]
    rw [Array.all_eq_true']
    intro e he
    have h4 := Array.all_eq_true'.1 hwf.1 e he
    simp only [decide_eq_true_eq] at h4
    have h5 := h3 e.on h4
    simp only [Array.getD_eq_getD_getElem?] at h5 ⊢
    rw [Array.getElem?_eq_getElem (by omega)] at h5 ⊢
    simp only [Option.getD_some] at h5 ⊢
    rw [h5, Bool.or_true]
  intro h
  rw [h] at hm
  cases hm
theorem wpAny_last (hL : lastB md ops o = true) (hQ : ∀ a w, C w → Q a → ∀ K : Act → World → Prop, (∀ a w, Q' .normal a w → K a w) → o.wp P a w K Q')
    (fuel : Nat) (listed : Array Bool) (a : Act) (w : World) (hs : listed.size = ops.size) (hw : C w) (hA : ∀ i, i < ops.size → listed.getD i true = true) (h : Q a) : wpAny P md (ops.push o) Q' (fuel + 1) (listed.push false) a w := by
  simp only [lastB, Bool.and_eq_true, List.all_eq_true, List.mem_range] at hL
  obtain ⟨⟨⟨_, hlt⟩, hgd⟩, _⟩ := hL
  have hr : Region.ready md (ops.push o) (listed.push false) = [ops.size] := by
    rw [ready_push _ _ _ _ hs, ready_all md ops listed hA, if_pos, List.nil_append]
    rw [Array.all_eq_true']
    intro e he
    have h1 := Array.all_eq_true'.1 hlt e he
    simp only [decide_eq_true_eq] at h1
    have h2 := hA e.on h1
    simp only [Array.getD_eq_getD_getElem?] at h2 ⊢
    rw [Array.getElem?_eq_getElem (by omega)] at h2 ⊢
    simp only [Option.getD_some] at h2 ⊢
    rw [h2, Bool.or_true]
  refine ⟨fun h0 => (by rw [hr] at h0; cases h0), fun i hi => ?_⟩
  rw [hr] at hi
  obtain rfl : i = ops.size := by simpa using hi
  unfold wpOp
  rw [Array.getElem?_push, if_pos rfl]
  have hwt : Region.wanted o (yielded (ops.push o) a.tmps) = true := by
    unfold Region.wanted
    rw [Option.isNone_iff_eq_none.1 hgd]
  simp only [hwt, if_true]
  refine .inl (hQ a w hw h _ fun a' w' hn => wpAny_done (ready_all _ _ _ fun i hi => ?_) hn fuel)
  rw [Array.size_push] at hi
  simp only [Array.getD_eq_getD_getElem?, Array.getElem?_setIfInBounds, Array.getElem?_push, Array.size_push]
  by_cases h1 : ops.size = i
  · subst h1
    rw [if_pos rfl, if_pos (by omega)]; rfl
  · rw [if_neg h1, if_neg (by omega)]
    have h2 := hA i (by omega)
    simpa only [Array.getD_eq_getD_getElem?] using h2

theorem wpAny_then (hL : lastB md ops o = true) (hQ : ∀ a w, C w → Q a → ∀ K : Act → World → Prop, (∀ a w, Q' .normal a w → K a w) → o.wp P a w K Q') :
    ∀ (fuel : Nat) (listed : Array Bool) (a : Act) (w : World), listed.size = ops.size → C w → wpAnyQ P md ops C Q fuel listed a → wpAny P md (ops.push o) Q' (fuel + 1) (listed.push false) a w := by
  have hL0 := hL
  simp only [lastB, Bool.and_eq_true, List.all_eq_true, List.mem_range] at hL
  obtain ⟨⟨⟨hall, _⟩, _⟩, _⟩ := hL
  intro fuel
  induction fuel with
  | zero =>
    intro listed a w hs hw h
    by_cases hA : ∀ i, i < ops.size → listed.getD i true = true
    · exact wpAny_last hL0 hQ 0 listed a w hs hw hA h.2
    · exact absurd h.1 (ready_some hL0 listed hs hA)
  | succ fuel ih =>
    intro listed a w hs hw h
    by_cases hA : ∀ i, i < ops.size → listed.getD i true = true
    · exact wpAny_last hL0 hQ (fuel + 1) listed a w hs hw hA (h.1 (ready_all md ops listed hA))
    · have hne := ready_some hL0 listed hs hA
      have hr : Region.ready md (ops.push o) (listed.push false) = Region.ready md ops listed := by
        rw [ready_push _ _ _ _ hs, if_neg, List.append_nil]
        intro hh
        apply hA
        intro i hi
        obtain ⟨e, he, hb⟩ := Array.any_eq_true'.1 (hall i hi)
        simp only [Bool.and_eq_true, beq_iff_eq] at hb
        have := Array.all_eq_true'.1 hh e he
        rw [hb.1, hb.2] at this
        simp only [Bool.not_true, Bool.false_or] at this
        simp only [Array.getD_eq_getD_getElem?] at this ⊢
        rw [Array.getElem?_eq_getElem (by omega)] at this ⊢
        exact this
      refine ⟨fun h0 => absurd (hr ▸ h0) hne, fun i hi => ?_⟩
      rw [hr] at hi
      have hil : i < ops.size := List.mem_range.1 (List.mem_filter.1 hi).1
      have hset : (listed.push false).setIfInBounds i true = (listed.setIfInBounds i true).push false := by
        apply Array.ext_getElem?
        intro j
        simp only [Array.getElem?_push, Array.getElem?_setIfInBounds, Array.size_push, Array.size_setIfInBounds]
        by_cases hj : j = listed.size
        · rw [if_pos hj, if_neg (by omega), if_pos hj]
        · rw [if_neg hj, if_neg hj]
          by_cases hij : i = j
          · rw [if_pos hij, if_pos hij, if_pos (by omega), if_pos (by omega)]
          · rw [if_neg hij, if_neg hij]
      rw [hset]
      exact wpOp_of_qOp hw (fun a' w' hw' hh => ih _ _ _ (by rw [Array.size_setIfInBounds]; exact hs) hw' hh) (qOp_push hil hL0 (h.2 i hi))
theorem wp_region_then {id k : Nat} {a : Act} {w : World} {ops : List Oper} (l : List Oper) (o : Oper) (hl : ops.take k = l) (ho : ops[k]? = some o) (hk : ops.length = k + 1) (hm : P.follows .mixedOrders = true) (hB : Region.lexB .any l.toArray = true) (hL : lastB .any l.toArray o = true)
    (h : wpQuiet P l.toArray (fun w' => ∃ n, w' = w.drewN n) (fun a' => ∀ w', (∃ n, w' = w.drewN n) → ∀ K : Act → World → Prop, (∀ a w, Q' .normal a w → K a w) → o.wp P a' w' K Q') l a) : (Code.region id ops.toArray true).wp P Q' a w := by
  have he : ops.toArray = l.toArray.push o := by
    rw [List.push_toArray, ← hl]
    congr 1
    apply List.ext_getElem?
    intro i
    rw [List.getElem?_append, List.length_take, List.getElem?_take]
    by_cases h1 : i < k
    · rw [if_pos (by omega), if_pos h1]
    · rw [if_neg (by omega)]
      by_cases h2 : i = k
      · subst h2
        rw [ho, show i - min i ops.length = 0 from by omega]; rfl
      · rw [List.getElem?_eq_none (by omega), List.getElem?_eq_none (by simp; omega)]
  rw [he]
  have hlen : l.length = k := by rw [← hl, List.length_take]; omega
  simp only [Region.lexB, Bool.and_eq_true] at hB
  refine wp_region_any hm ?_
  have h2 := wpAnyQ_lex (C := fun w' => ∃ n, w' = w.drewN n) (md := .any) hB.1 l 0 (Array.replicate l.toArray.size false) a (by simp) (by simpa using hB.2) h
  have h3 := wpAny_then (Q' := Q') hL (fun a w' hw' hq K hK => hq w' hw' K hK) l.length _ a { w with drawn := w.drawn + 1 } (by simp) ⟨1, rfl⟩ h2
  rw [Array.size_push, List.size_toArray]
  rw [show Array.replicate (l.length + 1) false = (Array.replicate l.toArray.size false).push false from by simp [Array.replicate_succ]]
  exact h3
end
end Go.Proofs.Ytcadkaedahoefaa
