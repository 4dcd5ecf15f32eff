/- The document's Decode, plain: field by field off the front; it is what package wire's gives.
   The document's read of a field, plain: its cases. -/
import Derived.Test.YtklpopmjpgdjnaaGreatDoorQGg
set_option linter.unusedVariables false
set_option linter.unusedSimpArgs false
namespace Go.Proofs.YtklpopmjpgdjnaaGreatDoor

theorem bytes_eq2 {a b : ByteArray} (h : a.data.toList = b.data.toList) : a = b := ByteArray.ext (Array.toList_inj.1 h)
/-- what the document reads off the front of bytes for a field, and how many bytes it takes -/
def readF (x : Msg) (s : ByteArray) (f : Fld) : Option (Msg × Nat) :=
  if (Fld.rd ⟨x, ⟨s, 0, 0⟩, false, false⟩ f).q.f ≠ 0 ∨ (Fld.rd ⟨x, ⟨s, 0, 0⟩, false, false⟩ f).wrong = true then none
  else some ((Fld.rd ⟨x, ⟨s, 0, 0⟩, false, false⟩ f).m, (Fld.rd ⟨x, ⟨s, 0, 0⟩, false, false⟩ f).q.at_)
/-- a row of fields -/
def foldD : List Fld → Msg → ByteArray → Option (Msg × ByteArray)
  | [], x, s => some (x, s)
  | f :: l, x, s => match readF x s f with
    | none => none
    | some (y, n) => foldD l y (s.extract n s.size)
def docE (o : Option (Msg × ByteArray)) : Msg × Int :=
  match o with
  | none => (Msg.zero, 51)
  | some (m, rest) => if rest.size ≠ 0 then (Msg.zero, 51) else if plainM m = false then (Msg.zero, 241) else if 16 < m.names.length ∨ 16 < m.qids.length then (Msg.zero, 4) else (m, 0)
def docT (t g : Nat) (s : ByteArray) : Msg × Int :=
  match fieldsOf t with
  | none => (Msg.zero, 240)
  | some l => docE (foldD l (Msg.bare t g) (s.extract 7 s.size))
def docM (s : ByteArray) : Msg × Int :=
  if s.size < 7 then (Msg.zero, 50)
  else if leNat (s.extract 0 4).data.toList ≠ s.size then (Msg.zero, 51)
  else if 8192 < s.size then (Msg.zero, 4)
  else docT (leNat (s.extract 4 5).data.toList) (leNat (s.extract 5 7).data.toList) s

/-- two readers that have the same before them -/
def Sh (q r : Rd) : Prop := (q.f ≠ 0 ∧ r.f ≠ 0) ∨ (q.f = 0 ∧ r.f = 0 ∧ q.at_ ≤ q.s.size ∧ r.at_ ≤ r.s.size ∧ q.s.data.toList.drop q.at_ = r.s.data.toList.drop r.at_)
theorem Sh.refl0 {q : Rd} (h : q.f = 0 ∧ q.at_ ≤ q.s.size) : Sh q q := .inr ⟨h.1, h.1, h.2, h.2, rfl⟩
theorem Rd.bytes_if {q : Rd} (h : q.f = 0) (n : Nat) : q.bytes n = if q.s.size < q.at_ + n then (ByteArray.empty, ⟨q.s, q.at_, 50⟩) else (q.s.extract q.at_ (q.at_ + n), ⟨q.s, q.at_ + n, 0⟩) := by
  unfold Rd.bytes
  rw [if_neg (by simp [h]), if_neg (by omega), Int.toNat_natCast]
theorem Sh.bytes {q r : Rd} (h : Sh q r) (n : Nat) : (q.bytes n).1 = (r.bytes n).1 ∧ Sh (q.bytes n).2 (r.bytes n).2 := by
  rcases h with ⟨h1, h2⟩ | ⟨h1, h2, h3, h4, h5⟩
  · rw [Rd.bytes_fault q n h1, Rd.bytes_fault r n h2]
    exact ⟨rfl, .inl ⟨h1, h2⟩⟩
  · have hl := congrArg List.length h5
    rw [List.length_drop, List.length_drop, bsize, bsize] at hl
    rw [Rd.bytes_if h1, Rd.bytes_if h2]
    by_cases hc : q.s.size < q.at_ + n
    · rw [if_pos hc, if_pos (by omega)]
      exact ⟨rfl, .inl ⟨(by decide : (50 : Int) ≠ 0), (by decide : (50 : Int) ≠ 0)⟩⟩
    · rw [if_neg hc, if_neg (by omega)]
      refine ⟨bytes_eq2 ?_, .inr ⟨rfl, rfl, by show q.at_ + n ≤ q.s.size; omega, by show r.at_ + n ≤ r.s.size; omega, ?_⟩⟩
      · rw [extract_take, extract_take, h5]
      · show q.s.data.toList.drop (q.at_ + n) = r.s.data.toList.drop (r.at_ + n)
        rw [← List.drop_drop, ← List.drop_drop, h5]
theorem Sh.num {q r : Rd} (h : Sh q r) (k : Nat) : (q.num k).1 = (r.num k).1 ∧ Sh (q.num k).2 (r.num k).2 := by
  obtain ⟨a, b⟩ := h.bytes k
  exact ⟨by unfold Rd.num; rw [a], b⟩
theorem Sh.keep {q r : Rd} (h : Sh q r) (a b : Nat) : Sh (q.keep a) (r.keep b) := by
  unfold Rd.keep
  rcases h with ⟨h1, h2⟩ | ⟨h1, h2, h3⟩
  · rw [if_pos h1, if_pos h2]; exact .inl ⟨h1, h2⟩
  · rw [if_neg (by simp [h1]), if_neg (by simp [h2])]; exact .inr ⟨h1, h2, h3⟩
theorem Sh.text {q r : Rd} (h : Sh q r) : q.text.1 = r.text.1 ∧ Sh q.text.2 r.text.2 := by
  obtain ⟨a, b⟩ := h.num 2
  unfold Rd.text
  rw [← a]
  obtain ⟨c, d⟩ := b.bytes (q.num 2).1
  exact ⟨c, d.keep _ _⟩
theorem Sh.fault {q r : Rd} (h : Sh q r) : q.f ≠ 0 ↔ r.f ≠ 0 := by
  rcases h with ⟨h1, h2⟩ | ⟨h1, h2, h3⟩
  · exact ⟨fun _ => h2, fun _ => h1⟩
  · exact ⟨fun x => absurd h1 x, fun x => absurd h2 x⟩
theorem Sh.texts (k : Nat) : ∀ {q r : Rd} (acc : List ByteArray), Sh q r → (rdTexts k q acc).1 = (rdTexts k r acc).1 ∧ Sh (rdTexts k q acc).2 (rdTexts k r acc).2 := by
  induction k with
  | zero => exact fun acc h => ⟨rfl, h⟩
  | succ k ih =>
    intro q r acc h
    unfold rdTexts
    by_cases hq : q.f ≠ 0
    · rw [if_pos hq, if_pos (h.fault.1 hq)]; exact ⟨rfl, h⟩
    · rw [if_neg hq, if_neg (fun x => hq (h.fault.2 x))]
      obtain ⟨a, b⟩ := h.text
      rw [← a]
      exact ih _ b
theorem Sh.qid {q r : Rd} (h : Sh q r) : (rdQid q).1 = (rdQid r).1 ∧ Sh (rdQid q).2 (rdQid r).2 := by
  obtain ⟨a1, b1⟩ := h.num 1
  obtain ⟨a2, b2⟩ := b1.num 4
  obtain ⟨a3, b3⟩ := b2.num 8
  exact ⟨by unfold rdQid; rw [a1, a2, a3], b3⟩
theorem Sh.qids (k : Nat) : ∀ {q r : Rd} (acc : List Qd), Sh q r → (rdQids k q acc).1 = (rdQids k r acc).1 ∧ Sh (rdQids k q acc).2 (rdQids k r acc).2 := by
  induction k with
  | zero => exact fun acc h => ⟨rfl, h⟩
  | succ k ih =>
    intro q r acc h
    unfold rdQids
    by_cases hq : q.f ≠ 0
    · rw [if_pos hq, if_pos (h.fault.1 hq)]; exact ⟨rfl, h⟩
    · rw [if_neg hq, if_neg (fun x => hq (h.fault.2 x))]
      obtain ⟨a, b⟩ := h.qid
      rw [← a]
      exact ih _ b
theorem Sh.data {q r : Rd} (h : Sh q r) : (rdData q).1 = (rdData r).1 ∧ Sh (rdData q).2 (rdData r).2 := by
  obtain ⟨a, b⟩ := h.num 4
  unfold rdData
  rw [← a]
  exact b.bytes _
theorem Sh.statB {q r : Rd} (h : Sh q r) : (rdStatB q).1 = (rdStatB r).1 ∧ Sh (rdStatB q).2 (rdStatB r).2 := by
  obtain ⟨a, b⟩ := h.num 2
  unfold rdStatB
  rw [← a]
  exact b.bytes _
/-- a field read by two readers that have the same before them -/
theorem Sh.fld {q r : Rd} (h : Sh q r) (x : Msg) (w l l' : Bool) (f : Fld) :
    (Fld.rd ⟨x, q, w, l⟩ f).m = (Fld.rd ⟨x, r, w, l'⟩ f).m ∧ (Fld.rd ⟨x, q, w, l⟩ f).wrong = (Fld.rd ⟨x, r, w, l'⟩ f).wrong ∧ Sh (Fld.rd ⟨x, q, w, l⟩ f).q (Fld.rd ⟨x, r, w, l'⟩ f).q := by
  have n1 := h.num 1
  have n2 := h.num 2
  have n4 := h.num 4
  have n8 := h.num 8
  have nt := h.text
  have nq := h.qid
  have nd := h.data
  have ns := h.statB
  have nl := n2.2.texts (q.num 2).1 []
  have nm := n2.2.qids (q.num 2).1 []
  cases f
  case names => refine ⟨?_, rfl, ?_⟩ <;> (unfold Fld.rd; simp only; rw [← n2.1]; first | rw [nl.1] | exact nl.2)
  case qids => refine ⟨?_, rfl, ?_⟩ <;> (unfold Fld.rd; simp only; rw [← n2.1]; first | rw [nm.1] | exact nm.2)
  case version => exact ⟨by unfold Fld.rd; simp only; rw [nt.1], rfl, nt.2⟩
  case uname => exact ⟨by unfold Fld.rd; simp only; rw [nt.1], rfl, nt.2⟩
  case aname => exact ⟨by unfold Fld.rd; simp only; rw [nt.1], rfl, nt.2⟩
  case ename => exact ⟨by unfold Fld.rd; simp only; rw [nt.1], rfl, nt.2⟩
  case name => exact ⟨by unfold Fld.rd; simp only; rw [nt.1], rfl, nt.2⟩
  case qid => exact ⟨by unfold Fld.rd; simp only; rw [nq.1], rfl, nq.2⟩
  case data => exact ⟨by unfold Fld.rd; simp only; rw [nd.1], rfl, nd.2⟩
  case stat => exact ⟨by unfold Fld.rd; simp only; rw [ns.1], by unfold Fld.rd; simp only; rw [ns.1], ns.2⟩
  case oldtag => exact ⟨by unfold Fld.rd; simp only; rw [n2.1], rfl, n2.2⟩
  case mode => exact ⟨by unfold Fld.rd; simp only; rw [n1.1], rfl, n1.2⟩
  case offset => exact ⟨by unfold Fld.rd; simp only; rw [n8.1], rfl, n8.2⟩
  all_goals exact ⟨by unfold Fld.rd; simp only; rw [n4.1], rfl, n4.2⟩
/-- what was a fault stays one -/
def Bad (s : Re) : Prop := s.q.f ≠ 0 ∨ s.wrong = true
theorem rd_q_adv {s : Re} {f : Fld} (h : (Fld.rd s f).q.f = 0) : s.q.f = 0 := by
  have h1 : ∀ k, (s.q.num k).2.f = 0 → s.q.f = 0 := fun k x => (Rd.num_adv x).1
  cases f
  case names => exact h1 2 (rdTexts_adv h)
  case qids => exact h1 2 (rdQids_adv h)
  case version => exact (Rd.text_adv h).1
  case uname => exact (Rd.text_adv h).1
  case aname => exact (Rd.text_adv h).1
  case ename => exact (Rd.text_adv h).1
  case name => exact (Rd.text_adv h).1
  case qid => exact h1 1 ((Rd.num_adv ((Rd.num_adv (show ((((s.q.num 1).2.num 4).2.num 8).2).f = 0 from h)).1)).1)
  case data => exact h1 4 ((Rd.bytes_adv h).1)
  case stat => exact h1 2 ((Rd.bytes_adv h).1)
  all_goals exact h1 _ h
theorem Bad.rd {s : Re} (h : Bad s) (f : Fld) : Bad (Fld.rd s f) := by
  rcases h with h | h
  · exact .inl fun x => h (rd_q_adv x)
  · refine .inr ?_
    cases f <;> first | exact h | (show (s.wrong || _) = true; rw [h]; rfl)
theorem Bad.rds (l : List Fld) : ∀ {s : Re}, Bad s → Bad (l.foldl Fld.rd s) := by
  induction l with
  | nil => exact fun h => h
  | cons f l ih => exact fun h => ih (h.rd f)
theorem sh_back {q : Rd} {s : ByteArray} (hf : q.f = 0) (hs : q.at_ ≤ q.s.size) (hd : q.s.data.toList.drop q.at_ = s.data.toList) : Sh q ⟨s, 0, 0⟩ := .inr ⟨hf, rfl, hs, Nat.zero_le _, hd⟩
/-- the row of fields: the pen's reader and the document's -/
theorem fold_is (l : List Fld) : ∀ (x : Msg) (q : Rd) (lg : Bool) (s : ByteArray), q.f = 0 → q.at_ ≤ q.s.size → q.s.data.toList.drop q.at_ = s.data.toList →
    (Bad (l.foldl Fld.rd ⟨x, q, false, lg⟩) → foldD l x s = none) ∧
    (¬ Bad (l.foldl Fld.rd ⟨x, q, false, lg⟩) → ∃ s', foldD l x s = some ((l.foldl Fld.rd ⟨x, q, false, lg⟩).m, s') ∧ (l.foldl Fld.rd ⟨x, q, false, lg⟩).q.at_ ≤ (l.foldl Fld.rd ⟨x, q, false, lg⟩).q.s.size ∧ (l.foldl Fld.rd ⟨x, q, false, lg⟩).q.s.data.toList.drop (l.foldl Fld.rd ⟨x, q, false, lg⟩).q.at_ = s'.data.toList) := by
  induction l with
  | nil =>
    intro x q lg s hf hs hd
    refine ⟨fun h => ?_, fun _ => ⟨s, rfl, hs, hd⟩⟩
    rcases h with h | h
    · exact absurd hf h
    · cases h
  | cons f l ih =>
    intro x q lg s hf hs hd
    have hsh := (sh_back hf hs hd).fld x false lg false f
    have hss : (Fld.rd ⟨x, ⟨s, 0, 0⟩, false, false⟩ f).q.s = s := rd_s' _ f
    have hkeep : ∀ s : Re, s = ⟨s.m, s.q, s.wrong, s.long⟩ := fun _ => rfl
    rw [List.foldl_cons]
    obtain ⟨h1, h2, h3⟩ := hsh
    by_cases hb : Bad (Fld.rd ⟨x, q, false, lg⟩ f)
    · refine ⟨fun _ => ?_, fun h => absurd (hb.rds l) h⟩
      have hr : readF x s f = none := by
        unfold readF
        rw [if_pos]
        rcases hb with hb | hb
        · exact .inl (h3.fault.1 hb)
        · exact .inr (h2 ▸ hb)
      show (match readF x s f with | none => none | some (y, n) => foldD l y (s.extract n s.size)) = none
      rw [hr]
    · have hq0 : (Fld.rd ⟨x, q, false, lg⟩ f).q.f = 0 := Decidable.not_not.1 fun e => hb (.inl e)
      have hw0 : (Fld.rd ⟨x, q, false, lg⟩ f).wrong = false := by
        cases hw : (Fld.rd ⟨x, q, false, lg⟩ f).wrong
        · rfl
        · exact absurd (.inr hw) hb
      rcases h3 with ⟨x1, _⟩ | ⟨_, g2, g3, g4, g5⟩
      · exact absurd hq0 x1
      have hr : readF x s f = some ((Fld.rd ⟨x, q, false, lg⟩ f).m, (Fld.rd ⟨x, ⟨s, 0, 0⟩, false, false⟩ f).q.at_) := by
        unfold readF
        rw [if_neg, h1]
        rintro (e | e)
        · exact e g2
        · rw [← h2, hw0] at e; cases e
      have he : foldD (f :: l) x s = foldD l (Fld.rd ⟨x, q, false, lg⟩ f).m (s.extract (Fld.rd ⟨x, ⟨s, 0, 0⟩, false, false⟩ f).q.at_ s.size) := by
        show (match readF x s f with | none => none | some (y, n) => foldD l y (s.extract n s.size)) = _
        rw [hr]
      rw [he]
      have hR := hkeep (Fld.rd ⟨x, q, false, lg⟩ f)
      rw [hw0] at hR
      have := ih (Fld.rd ⟨x, q, false, lg⟩ f).m (Fld.rd ⟨x, q, false, lg⟩ f).q (Fld.rd ⟨x, q, false, lg⟩ f).long (s.extract (Fld.rd ⟨x, ⟨s, 0, 0⟩, false, false⟩ f).q.at_ s.size) hq0 g3 (by
        rw [hss] at g4 g5
        rw [g5]
        have := extract_take s (Fld.rd ⟨x, ⟨s, 0, 0⟩, false, false⟩ f).q.at_ (s.size - (Fld.rd ⟨x, ⟨s, 0, 0⟩, false, false⟩ f).q.at_)
        rw [show (Fld.rd ⟨x, ⟨s, 0, 0⟩, false, false⟩ f).q.at_ + (s.size - (Fld.rd ⟨x, ⟨s, 0, 0⟩, false, false⟩ f).q.at_) = s.size from by omega] at this
        rw [this, List.take_of_length_le]
        rw [List.length_drop, bsize]; exact Nat.le_refl _)
      rw [← hR] at this
      exact this
/-- a list that is too long is told -/
theorem long_is (l : List Fld) : ∀ (s : Re), l.Nodup → (Fld.names ∈ l → s.m.names = []) → (Fld.qids ∈ l → s.m.qids = []) → s.long = (decide (16 < s.m.names.length) || decide (16 < s.m.qids.length)) →
    (l.foldl Fld.rd s).long = (decide (16 < (l.foldl Fld.rd s).m.names.length) || decide (16 < (l.foldl Fld.rd s).m.qids.length)) := by
  induction l with
  | nil => exact fun _ _ _ _ h => h
  | cons f l ih =>
    intro s hn h1 h2 h
    rw [List.foldl_cons]
    have hnd := (List.nodup_cons.1 hn)
    have k1 : f ≠ .names → (Fld.rd s f).m.names = s.m.names := fun e => by cases f <;> first | rfl | exact absurd rfl e
    have k2 : f ≠ .qids → (Fld.rd s f).m.qids = s.m.qids := fun e => by cases f <;> first | rfl | exact absurd rfl e
    refine ih _ hnd.2 (fun hm => ?_) (fun hm => ?_) ?_
    · rw [k1 (fun e => hnd.1 (e ▸ hm))]; exact h1 (List.mem_cons_of_mem _ hm)
    · rw [k2 (fun e => hnd.1 (e ▸ hm))]; exact h2 (List.mem_cons_of_mem _ hm)
    · by_cases e1 : f = .names
      · subst e1
        have := h1 (List.mem_cons_self ..)
        rw [this] at h
        show (s.long || decide (16 < (Fld.rd s .names).m.names.length)) = _
        rw [h, k2 (by decide)]
        simp [Bool.or_comm]
      · by_cases e2 : f = .qids
        · subst e2
          have := h2 (List.mem_cons_self ..)
          rw [this] at h
          show (s.long || decide (16 < (Fld.rd s .qids).m.qids.length)) = _
          rw [h, k1 (by decide)]
          simp
        · rw [k1 e1, k2 e2, ← h]
          cases f <;> first | rfl | exact absurd rfl e1 | exact absurd rfl e2
theorem num_ok' {q : Rd} {k : Nat} (hf : q.f = 0) (h : q.at_ + k ≤ q.s.size) : q.num k = (leNat (q.s.extract q.at_ (q.at_ + k)).data.toList, ⟨q.s, q.at_ + k, 0⟩) := by
  unfold Rd.num
  rw [Rd.bytes_if hf, if_neg (by omega)]
theorem num_no' {q : Rd} {k : Nat} (h : q.f ≠ 0 ∨ q.s.size < q.at_ + k) : (q.num k).2.f ≠ 0 := by
  by_cases hf : q.f ≠ 0
  · unfold Rd.num; rw [Rd.bytes_fault _ _ hf]; exact hf
  · unfold Rd.num; rw [Rd.bytes_if (Decidable.not_not.1 hf), if_pos (by rcases h with h | h; exact absurd h hf; exact h)]
    exact (by decide : (50 : Int) ≠ 0)
/-- the document's answer is package wire's -/
theorem doc_is (s : ByteArray) : docM s = decM s := by
  have hD : decM s = decH (hd3 s) s := rfl
  rw [hD]
  unfold docM decH
  by_cases h7 : s.size < 7
  · rw [if_pos h7, if_pos]
    show ((((Rd.num ⟨s, 0, 0⟩ 4).2.num 1).2.num 2).2).f ≠ 0
    by_cases a : s.size < 4
    · refine num_no' (.inl (num_no' (.inl (num_no' (.inr ?_)))))
      show s.size < 0 + 4; omega
    · rw [show Rd.num ⟨s, 0, 0⟩ 4 = _ from num_ok' rfl (by show 0 + 4 ≤ s.size; omega)]
      by_cases b : s.size < 5
      · refine num_no' (.inl (num_no' (.inr ?_)))
        show s.size < 0 + 4 + 1; omega
      · rw [show Rd.num ⟨s, 0 + 4, 0⟩ 1 = _ from num_ok' rfl (by show 0 + 4 + 1 ≤ s.size; omega)]
        refine num_no' (.inr ?_)
        show s.size < 0 + 4 + 1 + 2; omega
  · have e3 : hd3 s = (leNat (s.extract 0 4).data.toList, leNat (s.extract 4 5).data.toList, leNat (s.extract 5 7).data.toList, ⟨s, 7, 0⟩) := by
      unfold hd3
      simp only
      rw [show Rd.num ⟨s, 0, 0⟩ 4 = _ from num_ok' rfl (by show 0 + 4 ≤ s.size; omega)]
      simp only
      rw [show Rd.num ⟨s, 0 + 4, 0⟩ 1 = _ from num_ok' rfl (by show 0 + 4 + 1 ≤ s.size; omega)]
      simp only
      rw [show Rd.num ⟨s, 0 + 4 + 1, 0⟩ 2 = _ from num_ok' rfl (by show 0 + 4 + 1 + 2 ≤ s.size; omega)]
    rw [if_neg h7, e3]
    simp only
    rw [if_neg (c := (0 : Int) ≠ 0) (by decide)]
    by_cases h4 : leNat (s.extract 0 4).data.toList ≠ s.size
    · rw [if_pos h4, if_pos h4]
    rw [if_neg h4, if_neg h4]
    by_cases h8 : 8192 < s.size
    · rw [if_pos h8, if_pos h8]
    rw [if_neg h8, if_neg h8]
    unfold docT
    cases hf : fieldsOf (leNat (s.extract 4 5).data.toList) with
    | none => rfl
    | some l =>
      simp only
      have hnd := fieldsOf_nodup hf
      generalize leNat (s.extract 4 5).data.toList = t at *
      generalize leNat (s.extract 5 7).data.toList = g at *
      generalize s.extract 7 s.size = rest at *
      have hfi := fold_is l (Msg.bare t g) ⟨rest, 0, 0⟩ false rest rfl (Nat.zero_le _) rfl
      have hlo := long_is l ⟨Msg.bare t g, ⟨rest, 0, 0⟩, false, false⟩ hnd (fun _ => rfl) (fun _ => rfl) rfl
      have hR : decR t g rest l = l.foldl Fld.rd ⟨Msg.bare t g, ⟨rest, 0, 0⟩, false, false⟩ := rfl
      rw [hR]
      generalize l.foldl Fld.rd ⟨Msg.bare t g, ⟨rest, 0, 0⟩, false, false⟩ = R at *
      unfold decE
      by_cases hb : Bad R
      · rw [hfi.1 hb, if_pos]
        · rfl
        · rcases hb with hb | hb
          · refine .inl ?_
            unfold Rd.end_
            rw [if_pos hb]; exact hb
          · exact .inr hb
      · obtain ⟨s', e1, e2, e5⟩ := hfi.2 hb
        rw [e1]
        unfold docE
        simp only
        have hq0 : R.q.f = 0 := Decidable.not_not.1 fun e => hb (.inl e)
        have hw0 : R.wrong = false := by
          cases hw : R.wrong
          · rfl
          · exact absurd (.inr hw) hb
        have hl := congrArg List.length e5
        rw [List.length_drop, bsize, bsize] at hl
        by_cases hz : s'.size ≠ 0
        · rw [if_pos hz, if_pos]
          refine .inl ?_
          unfold Rd.end_
          rw [if_neg (by simp [hq0]), if_pos (by omega)]; decide
        · rw [if_neg hz, if_neg (c := R.q.end_ ≠ 0 ∨ R.wrong = true)]
          · by_cases hp : plainM R.m = false
            · rw [if_pos hp, if_pos hp]
            rw [if_neg hp, if_neg hp, hlo]
            by_cases hc : 16 < R.m.names.length ∨ 16 < R.m.qids.length
            · rw [if_pos hc, if_pos]
              rcases hc with hc | hc <;> simp [hc]
            · rw [if_neg hc, if_neg]
              simp; omega
          · rintro (e | e)
            · apply e
              unfold Rd.end_
              rw [if_neg (by simp [hq0]), if_neg (by omega)]
            · rw [hw0] at e; cases e
end Go.Proofs.YtklpopmjpgdjnaaGreatDoor
namespace Go.Proofs.YtklpopmjpgdjnaaGreatDoor

/-- the text with which bytes begin, and how many bytes it took -/
def frontF (s : ByteArray) : ByteArray × Int := if (Rd.text ⟨s, 0, 0⟩).2.f ≠ 0 then (ByteArray.empty, -1) else ((Rd.text ⟨s, 0, 0⟩).1, ((Rd.text ⟨s, 0, 0⟩).2.at_ : Nat))
theorem frontF_no {s : ByteArray} (h : s.size < 2) : frontF s = (ByteArray.empty, -1) := by
  unfold frontF
  rw [if_pos]
  intro e
  have h1 : 0 + 2 + Rd.tl ⟨s, 0, 0⟩ ≤ s.size := (Rd.text_adv e).2.1
  omega
theorem frontF_yes {s : ByteArray} (h : 2 ≤ s.size) : frontF s = if s.size < 2 + leNat (s.extract 0 2).data.toList then (ByteArray.empty, -1) else (s.extract 2 (2 + leNat (s.extract 0 2).data.toList), ((2 + leNat (s.extract 0 2).data.toList : Nat) : Int)) := by
  have e1 : Rd.num ⟨s, 0, 0⟩ 2 = (leNat (s.extract 0 2).data.toList, ⟨s, 2, 0⟩) := num_ok' rfl (by show 0 + 2 ≤ s.size; omega)
  unfold frontF Rd.text
  rw [e1]
  generalize leNat (s.extract 0 2).data.toList = n
  have hb := Rd.bytes_if (q := ⟨s, 2, 0⟩) rfl n
  simp only at hb ⊢
  rw [hb]
  unfold Rd.keep
  by_cases hn : s.size < 2 + n
  · rw [if_pos hn, if_pos hn]; rfl
  · rw [if_neg hn, if_neg hn]; rfl
theorem sh_ext {s : ByteArray} {a : Nat} (h : a ≤ s.size) : Sh ⟨s, a, 0⟩ ⟨s.extract a s.size, 0, 0⟩ := by
  have hx : AtSplit ⟨s.extract a s.size, 0, 0⟩ (s.data.toList.drop a) := ext_split (q := ⟨s, a, 0⟩) ⟨rfl, h, rfl⟩
  exact .inr ⟨rfl, rfl, h, Nat.zero_le _, hx.2.2.symm⟩
/-- a text somewhere: the document's, of what stands from there on -/
theorem front_bad {s : ByteArray} {a : Nat} (h : a ≤ s.size) (hf : (Rd.text ⟨s, a, 0⟩).2.f ≠ 0) : frontF (s.extract a s.size) = (ByteArray.empty, -1) :=
  if_pos ((sh_ext h).text.2.fault.1 hf)
theorem front_good {s : ByteArray} {a : Nat} (h : a ≤ s.size) (hf : (Rd.text ⟨s, a, 0⟩).2.f = 0) : ∃ k : Nat, frontF (s.extract a s.size) = ((Rd.text ⟨s, a, 0⟩).1, (k : Int)) ∧ a + k ≤ s.size ∧ (Rd.text ⟨s, a, 0⟩).2 = ⟨s, a + k, 0⟩ := by
  obtain ⟨h1, h2⟩ := (sh_ext h).text
  have hs1 : (Rd.text ⟨s, a, 0⟩).2.s = s := Rd.text_s _
  have hs2 : (Rd.text ⟨s.extract a s.size, 0, 0⟩).2.s = s.extract a s.size := Rd.text_s _
  rcases h2 with ⟨x, _⟩ | ⟨_, g2, g3, g4, g5⟩
  · exact absurd hf x
  have hl := congrArg List.length g5
  rw [List.length_drop, List.length_drop, bsize, bsize, hs1, hs2, ByteArray.size_extract] at hl
  rw [hs1] at g3
  rw [hs2, ByteArray.size_extract] at g4
  refine ⟨(Rd.text ⟨s.extract a s.size, 0, 0⟩).2.at_, ?_, by omega, ?_⟩
  · unfold frontF
    rw [if_neg (fun e => e g2), ← h1]
  · have : ∀ q : Rd, q = ⟨q.s, q.at_, q.f⟩ := fun _ => rfl
    rw [this (Rd.text ⟨s, a, 0⟩).2, hs1, hf]
    congr 1
    omega
theorem readF_of {x : Msg} {s : ByteArray} {f : Fld} {y : Msg} {q : Rd} {lg : Bool} (h : Fld.rd ⟨x, ⟨s, 0, 0⟩, false, false⟩ f = ⟨y, q, false, lg⟩) : readF x s f = if q.f ≠ 0 then none else some (y, q.at_) := by
  unfold readF
  rw [h]
  by_cases hq : q.f ≠ 0
  · rw [if_pos hq, if_pos (.inl hq)]
  · rw [if_neg hq, if_neg (fun e => e.elim hq (fun e => by cases e))]
theorem num0_no {s : ByteArray} {k : Nat} (h : s.size < k) : (Rd.num ⟨s, 0, 0⟩ k).2.f ≠ 0 := num_no' (.inr (by show s.size < 0 + k; omega))
theorem num0_ok {s : ByteArray} {k : Nat} (h : k ≤ s.size) : Rd.num ⟨s, 0, 0⟩ k = (leNat (s.extract 0 k).data.toList, ⟨s, k, 0⟩) := by
  have := num_ok' (q := ⟨s, 0, 0⟩) (k := k) rfl (by show 0 + k ≤ s.size; omega)
  rw [this]
  show (leNat (s.extract 0 (0 + k)).data.toList, (⟨s, 0 + k, 0⟩ : Rd)) = _
  rw [Nat.zero_add]
theorem rdQid_no {s : ByteArray} {a : Nat} (h : s.size < a + 13) : (rdQid ⟨s, a, 0⟩).2.f ≠ 0 := by
  intro e
  have e3 := Rd.num_adv (q := ((Rd.num ⟨s, a, 0⟩ 1).2.num 4).2) (k := 8) e
  have e2 := Rd.num_adv (q := (Rd.num ⟨s, a, 0⟩ 1).2) (k := 4) e3.1
  have e1 := Rd.num_adv (q := ⟨s, a, 0⟩) (k := 1) e2.1
  have s1 : ((Rd.num ⟨s, a, 0⟩ 1).2.num 4).2.s = s := (Rd.num_s _ 4).trans (Rd.num_s _ 1)
  have h3 := e3.2.1
  have h1 := e1.2.2
  rw [s1, e2.2.2, h1] at h3
  have h3 : a + 1 + 4 + 8 ≤ s.size := h3
  omega
theorem rdQid_ok2 {s : ByteArray} {a : Nat} (h : a + 13 ≤ s.size) : rdQid ⟨s, a, 0⟩ = (⟨leNat ((s.extract a (a + 13)).extract 0 1).data.toList, leNat ((s.extract a (a + 13)).extract 1 5).data.toList, leNat ((s.extract a (a + 13)).extract 5 13).data.toList⟩, ⟨s, a + 13, 0⟩) := by
  have x0 : ∀ i k, i + k ≤ 13 → ((s.extract a (a + 13)).extract i (i + k)).data.toList = (s.extract (a + i) (a + i + k)).data.toList := fun i k hk => by
    rw [extract_take, extract_take, extract_take, List.drop_take, List.take_take, List.drop_drop, Nat.min_eq_left (by omega)]
  have e1 : Rd.num ⟨s, a, 0⟩ 1 = (leNat ((s.extract a (a + 13)).extract 0 1).data.toList, ⟨s, a + 1, 0⟩) := by
    rw [num_ok' (q := ⟨s, a, 0⟩) (k := 1) rfl (by show a + 1 ≤ s.size; omega), x0 0 1 (by omega)]; rfl
  have e2 : Rd.num ⟨s, a + 1, 0⟩ 4 = (leNat ((s.extract a (a + 13)).extract 1 5).data.toList, ⟨s, a + 5, 0⟩) := by
    rw [num_ok' (q := ⟨s, a + 1, 0⟩) (k := 4) rfl (by show a + 1 + 4 ≤ s.size; omega), x0 1 4 (by omega)]
  have e3 : Rd.num ⟨s, a + 5, 0⟩ 8 = (leNat ((s.extract a (a + 13)).extract 5 13).data.toList, ⟨s, a + 13, 0⟩) := by
    rw [num_ok' (q := ⟨s, a + 5, 0⟩) (k := 8) rfl (by show a + 5 + 8 ≤ s.size; omega), x0 5 8 (by omega)]
  unfold rdQid
  simp only [e1, e2, e3]
theorem readF_names {x : Msg} {s : ByteArray} (h : 2 ≤ s.size) : readF x s .names = if (rdTexts (leNat (s.extract 0 2).data.toList) ⟨s, 2, 0⟩ []).2.f ≠ 0 then none else some ({ x with names := (rdTexts (leNat (s.extract 0 2).data.toList) ⟨s, 2, 0⟩ []).1 }, (rdTexts (leNat (s.extract 0 2).data.toList) ⟨s, 2, 0⟩ []).2.at_) := by
  refine readF_of (lg := (false || decide (16 < (rdTexts (leNat (s.extract 0 2).data.toList) ⟨s, 2, 0⟩ []).1.length))) ?_
  have e := num0_ok h
  unfold Fld.rd
  simp only [e]
theorem readF_qids {x : Msg} {s : ByteArray} (h : 2 ≤ s.size) : readF x s .qids = if (rdQids (leNat (s.extract 0 2).data.toList) ⟨s, 2, 0⟩ []).2.f ≠ 0 then none else some ({ x with qids := (rdQids (leNat (s.extract 0 2).data.toList) ⟨s, 2, 0⟩ []).1 }, (rdQids (leNat (s.extract 0 2).data.toList) ⟨s, 2, 0⟩ []).2.at_) := by
  refine readF_of (lg := (false || decide (16 < (rdQids (leNat (s.extract 0 2).data.toList) ⟨s, 2, 0⟩ []).1.length))) ?_
  have e := num0_ok h
  unfold Fld.rd
  simp only [e]
theorem readF_short {x : Msg} {s : ByteArray} (h : s.size < 2) : readF x s .names = none ∧ readF x s .qids = none ∧ readF x s .stat = none := by
  have hf := num0_no h
  refine ⟨if_pos (.inl fun e => hf (rdTexts_adv e)), if_pos (.inl fun e => hf (rdQids_adv e)), if_pos (.inl fun e => hf (Rd.bytes_adv e).1)⟩
/-- how many bytes a field takes: not more than there are -/
theorem readF_le {x y : Msg} {s : ByteArray} {f : Fld} {k : Nat} (h : readF x s f = some (y, k)) : k ≤ s.size := by
  unfold readF at h
  split at h
  · cases h
  · rename_i hb
    injection h with h
    injection h with _ h
    have hq0 : (Fld.rd ⟨x, ⟨s, 0, 0⟩, false, false⟩ f).q.f = 0 := Decidable.not_not.1 fun e => hb (.inl e)
    have hsh := (sh_back (q := ⟨s, 0, 0⟩) (s := s) rfl (Nat.zero_le _) rfl).fld x false false false f
    have hss : (Fld.rd ⟨x, ⟨s, 0, 0⟩, false, false⟩ f).q.s = s := rd_s' _ f
    rcases hsh.2.2 with ⟨x1, _⟩ | ⟨_, _, _, g4, _⟩
    · exact absurd hq0 x1
    · rw [hss] at g4; omega
theorem readF_data {x : Msg} {s : ByteArray} (h : 4 ≤ s.size) : readF x s .data = if s.size < 4 + leNat (s.extract 0 4).data.toList then none else some ({ x with data := s.extract 4 (4 + leNat (s.extract 0 4).data.toList) }, 4 + leNat (s.extract 0 4).data.toList) := by
  have e := num0_ok h
  have hb : rdData ⟨s, 0, 0⟩ = Rd.bytes ⟨s, 4, 0⟩ (leNat (s.extract 0 4).data.toList) := by unfold rdData; rw [e]
  have h2 : readF x s .data = if (rdData ⟨s, 0, 0⟩).2.f ≠ 0 then none else some ({ x with data := (rdData ⟨s, 0, 0⟩).1 }, (rdData ⟨s, 0, 0⟩).2.at_) := readF_of rfl
  rw [h2, hb]
  generalize leNat (s.extract 0 4).data.toList = n
  have hb := Rd.bytes_if (q := ⟨s, 4, 0⟩) rfl n
  simp only at hb
  rw [hb]
  by_cases hn : s.size < 4 + n
  · rw [if_pos hn, if_pos hn]; rfl
  · rw [if_neg hn, if_neg hn]; rfl
theorem readF_stat {x : Msg} {s : ByteArray} (h : 2 ≤ s.size) : readF x s .stat = if s.size < 2 + leNat (s.extract 0 2).data.toList then none else if (decS (s.extract 2 (2 + leNat (s.extract 0 2).data.toList))).2 ≠ 0 then none else some ({ x with stat := (decS (s.extract 2 (2 + leNat (s.extract 0 2).data.toList))).1 }, 2 + leNat (s.extract 0 2).data.toList) := by
  have e := num0_ok h
  have hb : rdStatB ⟨s, 0, 0⟩ = Rd.bytes ⟨s, 2, 0⟩ (leNat (s.extract 0 2).data.toList) := by unfold rdStatB; rw [e]
  have h2 : readF x s .stat = if (rdStatB ⟨s, 0, 0⟩).2.f ≠ 0 ∨ (false || decide ((decS (rdStatB ⟨s, 0, 0⟩).1).2 ≠ 0)) = true then none else some ({ x with stat := (decS (rdStatB ⟨s, 0, 0⟩).1).1 }, (rdStatB ⟨s, 0, 0⟩).2.at_) := rfl
  rw [h2, hb]
  generalize leNat (s.extract 0 2).data.toList = n
  have hb := Rd.bytes_if (q := ⟨s, 2, 0⟩) rfl n
  simp only at hb
  rw [hb]
  by_cases hn : s.size < 2 + n
  · rw [if_pos hn, if_pos hn, if_pos (.inl (by decide : (50 : Int) ≠ 0))]
  · rw [if_neg hn, if_neg hn]
    by_cases hd : (decS (s.extract 2 (2 + n))).2 = 0
    · rw [if_neg (by simp [hd]), if_neg (by simp [hd])]
    · rw [if_pos (by simp [hd]), if_pos (by simp [hd])]
theorem readF_text {x : Msg} {s : ByteArray} {f : Fld} {g : ByteArray → Msg} (h : Fld.rd ⟨x, ⟨s, 0, 0⟩, false, false⟩ f = ⟨g (Rd.text ⟨s, 0, 0⟩).1, (Rd.text ⟨s, 0, 0⟩).2, false, false⟩) :
    ((frontF s).2 = -1 ∧ readF x s f = none) ∨ ∃ k : Nat, (frontF s).2 = k ∧ readF x s f = some (g (frontF s).1, k) := by
  rw [readF_of h]
  unfold frontF
  by_cases hq : (Rd.text ⟨s, 0, 0⟩).2.f ≠ 0
  · rw [if_pos hq, if_pos hq]; exact .inl ⟨rfl, rfl⟩
  · rw [if_neg hq, if_neg hq]; exact .inr ⟨_, rfl, rfl⟩
theorem foldD_small {l : List Fld} {t g : Nat} {s r : ByteArray} {x : Msg} (h : foldD l (Msg.bare t g) s = some (x, r)) (hs : s.size ≤ 8192) : x.Small := by
  have hfi := fold_is l (Msg.bare t g) ⟨s, 0, 0⟩ false s rfl (Nat.zero_le _) rfl
  have hR : decR t g s l = l.foldl Fld.rd ⟨Msg.bare t g, ⟨s, 0, 0⟩, false, false⟩ := rfl
  have hsm := decR_small t g s l hs
  rw [hR] at hsm
  by_cases hb : Bad (l.foldl Fld.rd ⟨Msg.bare t g, ⟨s, 0, 0⟩, false, false⟩)
  · rw [hfi.1 hb] at h; cases h
  · obtain ⟨s', e1, _, _⟩ := hfi.2 hb
    rw [e1] at h
    injection h with h
    injection h with h _
    rw [← h]; exact hsm
/-- a field that is read is no more to come: what is to come is still empty -/
def FreshL (l : List Fld) (x : Msg) : Prop := (Fld.names ∈ l → x.names = []) ∧ (Fld.qids ∈ l → x.qids = [])
theorem FreshL.step {f : Fld} {l : List Fld} {x y : Msg} {s : ByteArray} {k : Nat} (h : FreshL (f :: l) x) (hn : (f :: l).Nodup) (hr : readF x s f = some (y, k)) : FreshL l y := by
  have hnd := List.nodup_cons.1 hn
  unfold readF at hr
  split at hr
  · cases hr
  · injection hr with hr
    injection hr with hr _
    subst hr
    constructor
    · intro hm
      have hne : f ≠ .names := fun e => hnd.1 (e ▸ hm)
      have := h.1 (List.mem_cons_of_mem _ hm)
      cases f <;> first | exact this | exact absurd rfl hne
    · intro hm
      have hne : f ≠ .qids := fun e => hnd.1 (e ▸ hm)
      have := h.2 (List.mem_cons_of_mem _ hm)
      cases f <;> first | exact this | exact absurd rfl hne
end Go.Proofs.YtklpopmjpgdjnaaGreatDoor
