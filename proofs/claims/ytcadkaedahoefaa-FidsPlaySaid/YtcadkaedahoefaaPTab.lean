/- What numbers stand for, plain: a rising list. -/
import Derived.Test.YtcadkaedahoefaaMapS
namespace Go.Proofs.Ytcadkaedahoefaa

structure Fd where
  path : Nat
  who : ByteArray
  opn : Bool
  mode : Nat
  next : Nat
def Fd.v (q : Fd) : Value := .agg #[.int .u64 q.path, .string q.who, .bool q.opn, .int .u8 q.mode, .int .u64 q.next]
def Fd.zero : Fd := ⟨0, ⟨#[]⟩, false, 0, 0⟩
theorem Fd.v_inj {p q : Fd} (h : p.v = q.v) : p = q := by
  unfold Fd.v at h
  injection h with h
  have h := congrArg Array.toList h
  simp only at h
  injection h with h1 h
  injection h with h2 h
  injection h with h3 h
  injection h with h4 h
  injection h with h5 _
  injection h1 with _ h1
  injection h2 with h2
  injection h3 with h3
  injection h4 with _ h4
  injection h5 with _ h5
  cases p; cases q
  simp only [Fd.mk.injEq] at *
  exact ⟨by omega, h2, h3, by omega, by omega⟩
abbrev HL := List (Nat × Fd)
def Rising (l : HL) : Prop := l.Pairwise fun p q => p.1 < q.1
def lookH (l : HL) (x : Nat) : Option Fd := (l.find? fun p => decide (p.1 = x)).map Prod.snd
theorem lookH_none {l : HL} {x : Nat} : lookH l x = none ↔ ∀ p ∈ l, p.1 ≠ x := by
  unfold lookH
  rw [Option.map_eq_none_iff, List.find?_eq_none]
  simp
theorem Rising.inj {l : HL} (h : Rising l) {p q : Nat × Fd} (hp : p ∈ l) (hq : q ∈ l) (e : p.1 = q.1) : p = q := by
  obtain ⟨i, hi, rfl⟩ := List.mem_iff_getElem.1 hp
  obtain ⟨j, hj, rfl⟩ := List.mem_iff_getElem.1 hq
  have h := List.pairwise_iff_getElem.1 h
  rcases Nat.lt_trichotomy i j with h1 | h1 | h1
  · have := h i j hi hj h1; omega
  · subst h1; rfl
  · have := h j i hj hi h1; omega
theorem lookH_some {l : HL} (h : Rising l) {x : Nat} {q : Fd} : lookH l x = some q ↔ (x, q) ∈ l := by
  unfold lookH
  rw [Option.map_eq_some_iff]
  constructor
  · rintro ⟨p, hp, rfl⟩
    have := List.find?_some hp
    simp at this
    subst this
    exact List.mem_of_find?_eq_some hp
  · intro hm
    cases hf : l.find? fun p => decide (p.1 = x) with
    | none => rw [List.find?_eq_none] at hf; exact absurd (by simp) (hf _ hm)
    | some p =>
      have h1 := List.find?_some hf
      simp at h1
      exact ⟨p, rfl, by rw [h.inj (List.mem_of_find?_eq_some hf) hm h1]⟩
theorem lookH_of_mem {l l' : HL} (h : Rising l) (h' : Rising l') {x : Nat} (hm : ∀ q, (x, q) ∈ l ↔ (x, q) ∈ l') : lookH l x = lookH l' x := by
  apply Option.ext
  intro q
  rw [lookH_some h, lookH_some h', hm]
def insH (l : HL) (x : Nat) (q : Fd) : HL := (l.takeWhile fun p => decide (p.1 < x)) ++ (x, q) :: (l.dropWhile fun p => decide (p.1 < x))
def setH (l : HL) (x : Nat) (q : Fd) : HL := l.map fun p => if p.1 = x then (x, q) else p
def delH (l : HL) (x : Nat) : HL := l.filter fun p => decide (p.1 ≠ x)
theorem mem_insH {l : HL} {x : Nat} {q : Fd} {p : Nat × Fd} : p ∈ insH l x q ↔ p = (x, q) ∨ p ∈ l := by
  unfold insH
  conv => rhs; rw [← List.takeWhile_append_dropWhile (p := fun p : Nat × Fd => decide (p.1 < x)) (l := l)]
  simp only [List.mem_append, List.mem_cons]
  constructor
  · rintro (h | h | h)
    · exact Or.inr (Or.inl h)
    · exact Or.inl h
    · exact Or.inr (Or.inr h)
  · rintro (h | h | h)
    · exact Or.inr (Or.inl h)
    · exact Or.inl h
    · exact Or.inr (Or.inr h)
theorem insH_length (l : HL) (x : Nat) (q : Fd) : (insH l x q).length = l.length + 1 := by
  have := congrArg List.length (List.takeWhile_append_dropWhile (p := fun p : Nat × Fd => decide (p.1 < x)) (l := l))
  unfold insH
  rw [List.length_append] at this ⊢
  rw [List.length_cons]
  omega
theorem dropWhile_ge {l : HL} (h : Rising l) (x : Nat) : ∀ p ∈ l.dropWhile (fun p => decide (p.1 < x)), x ≤ p.1 := by
  induction l with
  | nil => intro p hp; cases hp
  | cons a l ih =>
    intro p hp
    rw [List.dropWhile_cons] at hp
    split at hp
    · exact ih (List.pairwise_cons.1 h).2 p hp
    · rename_i ha
      simp at ha
      rcases List.mem_cons.1 hp with rfl | hp
      · exact ha
      · have := (List.pairwise_cons.1 h).1 p hp; omega
theorem takeWhile_lt (l : HL) (x : Nat) : ∀ p ∈ l.takeWhile (fun p => decide (p.1 < x)), p.1 < x := by
  intro p hp
  have := List.all_eq_true.1 (List.all_takeWhile (p := fun p : Nat × Fd => decide (p.1 < x)) (l := l)) p hp
  simpa using this
theorem Rising.ins {l : HL} (h : Rising l) {x : Nat} (q : Fd) (hn : lookH l x = none) : Rising (insH l x q) := by
  have hn := lookH_none.1 hn
  unfold Rising insH
  have h1 := takeWhile_lt l x
  have h2 := dropWhile_ge h x
  have hs : Rising ((l.takeWhile fun p => decide (p.1 < x)) ++ l.dropWhile fun p => decide (p.1 < x)) := by rw [List.takeWhile_append_dropWhile]; exact h
  have h3 : ∀ p ∈ l.dropWhile (fun p => decide (p.1 < x)), p.1 ≠ x := fun p hp => hn p ((List.dropWhile_sublist _).subset hp)
  obtain ⟨s1, s2, s3⟩ := List.pairwise_append.1 hs
  rw [List.pairwise_append]
  refine ⟨s1, List.pairwise_cons.2 ⟨fun p hp => ?_, s2⟩, fun p hp r hr => ?_⟩
  · have := h2 p hp
    have := h3 p hp
    show x < p.1
    omega
  · rcases List.mem_cons.1 hr with rfl | hr
    · exact h1 p hp
    · exact s3 p hp r hr
theorem look_ins {l : HL} (h : Rising l) {x : Nat} (q : Fd) (hn : lookH l x = none) (y : Nat) : lookH (insH l x q) y = if y = x then some q else lookH l y := by
  have hr := h.ins q hn
  split
  · rename_i e
    subst e
    exact (lookH_some hr).2 (mem_insH.2 (Or.inl rfl))
  · rename_i e
    exact lookH_of_mem hr h fun r => ⟨fun hm => (mem_insH.1 hm).resolve_left fun e2 => e (by injection e2), fun hm => mem_insH.2 (Or.inr hm)⟩
theorem Rising.set {l : HL} (h : Rising l) (x : Nat) (q : Fd) : Rising (setH l x q) := by
  unfold Rising setH
  rw [List.pairwise_map]
  refine h.imp fun {a b} hab => ?_
  have e1 : (if a.1 = x then (x, q) else a).1 = a.1 := by split <;> simp_all
  have e2 : (if b.1 = x then (x, q) else b).1 = b.1 := by split <;> simp_all
  rw [e1, e2]
  exact hab
theorem setH_length (l : HL) (x : Nat) (q : Fd) : (setH l x q).length = l.length := List.length_map _
theorem look_set {l : HL} (h : Rising l) {x : Nat} (q : Fd) {q0 : Fd} (hs : lookH l x = some q0) (y : Nat) : lookH (setH l x q) y = if y = x then some q else lookH l y := by
  have hr := h.set x q
  have hm0 := (lookH_some h).1 hs
  split
  · rename_i e
    subst e
    refine (lookH_some hr).2 (List.mem_map.2 ⟨_, hm0, ?_⟩)
    simp
  · rename_i e
    refine lookH_of_mem hr h fun r => ⟨fun hm => ?_, fun hm => List.mem_map.2 ⟨_, hm, if_neg e⟩⟩
    obtain ⟨p, hp, he⟩ := List.mem_map.1 hm
    by_cases hpx : p.1 = x
    · rw [if_pos hpx] at he
      injection he with he
      exact absurd he.symm e
    · rw [if_neg hpx] at he
      rw [← he]; exact hp
theorem Rising.del {l : HL} (h : Rising l) (x : Nat) : Rising (delH l x) := h.filter _
theorem look_del {l : HL} (h : Rising l) (x y : Nat) : lookH (delH l x) y = if y = x then none else lookH l y := by
  split
  · rename_i e
    subst e
    refine lookH_none.2 fun p hp => ?_
    have := (List.mem_filter.1 hp).2
    simpa using this
  · rename_i e
    refine lookH_of_mem (h.del x) h fun r => ⟨fun hm => (List.mem_filter.1 hm).1, fun hm => List.mem_filter.2 ⟨hm, by simpa using e⟩⟩
theorem delH_length {l : HL} (h : Rising l) (x : Nat) : (delH l x).length = if (lookH l x).isSome = true then l.length - 1 else l.length := by
  cases hl : lookH l x with
  | none =>
    have hn := lookH_none.1 hl
    rw [if_neg (by simp)]
    unfold delH
    rw [List.filter_eq_self.2 (fun p hp => by simpa using hn p hp)]
  | some q =>
    simp only [Option.isSome_some, if_true]
    have hm := (lookH_some h).1 hl
    obtain ⟨i, hi, he⟩ := List.mem_iff_getElem.1 hm
    have hsp : l = l.take i ++ (x, q) :: l.drop (i + 1) := by rw [← he, ← List.drop_eq_getElem_cons hi, List.take_append_drop]
    have hother : ∀ p ∈ l, p.1 = x → p = (x, q) := fun p hp e => h.inj hp hm e
    have hr := h
    rw [hsp] at hr
    unfold Rising at hr
    obtain ⟨s1, s2, s3⟩ := List.pairwise_append.1 hr
    have hf : delH l x = l.take i ++ l.drop (i + 1) := by
      unfold delH
      conv => lhs; rw [hsp]
      rw [List.filter_append, List.filter_cons_of_neg (by simp)]
      congr 1
      · refine List.filter_eq_self.2 fun p hp => ?_
        have := s3 p hp (x, q) (List.mem_cons_self ..)
        simp only at this
        simp; omega
      · refine List.filter_eq_self.2 fun p hp => ?_
        have := (List.pairwise_cons.1 s2).1 p hp
        simp only at this
        simp; omega
    rw [hf, List.length_append, List.length_take, List.length_drop]
    omega
/-- what is sorted and has the same entries is the same -/
theorem rising_ext {l m : HL} (hl : Rising l) (hm : Rising m) (h : ∀ p, p ∈ l ↔ p ∈ m) : l = m := by
  induction l generalizing m with
  | nil =>
    cases m with
    | nil => rfl
    | cons b m => exact absurd ((h b).2 (List.mem_cons_self ..)) (by simp)
  | cons a l ih =>
    cases m with
    | nil => exact absurd ((h a).1 (List.mem_cons_self ..)) (by simp)
    | cons b m =>
      obtain ⟨ha, hl'⟩ := List.pairwise_cons.1 hl
      obtain ⟨hb, hm'⟩ := List.pairwise_cons.1 hm
      have hab : a = b := by
        rcases List.mem_cons.1 ((h a).1 (List.mem_cons_self ..)) with e | e
        · exact e
        · rcases List.mem_cons.1 ((h b).2 (List.mem_cons_self ..)) with e2 | e2
          · exact e2.symm
          · have := hb a e; have := ha b e2; omega
      subst hab
      congr 1
      refine ih hl' hm' fun p => ?_
      have hp := h p
      simp only [List.mem_cons] at hp
      constructor
      · intro hpl
        rcases hp.1 (Or.inr hpl) with e | e
        · subst e; have := ha p hpl; omega
        · exact e
      · intro hpm
        rcases hp.2 (Or.inr hpm) with e | e
        · subst e; have := hb p hpm; omega
        · exact e
def addS (l : HL) (most : Int) (x : Nat) (q : Fd) : HL × Int :=
  if x = 4294967295 then (l, 2) else if (lookH l x).isSome = true then (l, 184) else if most ≤ l.length then (l, 6) else (insH l x q, 0)
def getS (l : HL) (x : Nat) : Fd × Int := match lookH l x with | some q => (q, 0) | none => (Fd.zero, 5)
def putS (l : HL) (x : Nat) (q : Fd) : HL × Int := match lookH l x with | some _ => (setH l x q, 0) | none => (l, 5)
def onS (l : HL) (p : Nat) : Nat := (l.filter fun h => decide (h.2.path = p)).length
end Go.Proofs.Ytcadkaedahoefaa
