/- What package wire's Decode gives.
   What package wire's Decode gives is small, and its numbers fit.
   What is written is read, and what is read is written as those bytes: whole messages, plain. -/
import Derived.Test.YtklpopmjpgdjnaaGreatDoorQEncode
import Derived.Test.YtklpopmjpgdjnaaGreatDoorQPenRF
import Derived.Test.YtklpopmjpgdjnaaGreatDoorQGf
set_option linter.unusedVariables false
set_option linter.unusedSimpArgs false
namespace Go.Proofs.YtklpopmjpgdjnaaGreatDoor
open Go.RowKit

/-- the three first numbers and the reader behind them -/
def hd3 (s : ByteArray) : Nat × Nat × Nat × Rd :=
  let a := Rd.num ⟨s, 0, 0⟩ 4
  let b := a.2.num 1
  let c := b.2.num 2
  (a.1, b.1, c.1, c.2)
def decR (t g : Nat) (rest : ByteArray) (l : List Fld) : Re := l.foldl Fld.rd ⟨{ Msg.zero with ty := t, tag := g }, ⟨rest, 0, 0⟩, false, false⟩
def decE (R : Re) : Msg × Int :=
  if R.q.end_ ≠ 0 ∨ R.wrong = true then (Msg.zero, 51)
  else if plainM R.m = false then (Msg.zero, 241)
  else if R.long = true then (Msg.zero, 4)
  else (R.m, 0)
def decH (H : Nat × Nat × Nat × Rd) (s : ByteArray) : Msg × Int :=
  if H.2.2.2.f ≠ 0 then (Msg.zero, 50)
  else if H.1 ≠ s.size then (Msg.zero, 51)
  else if 8192 < s.size then (Msg.zero, 4)
  else match fieldsOf H.2.1 with
    | none => (Msg.zero, 240)
    | some l => decE (decR H.2.1 H.2.2.1 (H.2.2.2.s.extract H.2.2.2.at_ H.2.2.2.s.size) l)
def decM (s : ByteArray) : Msg × Int := decH (hd3 s) s
end Go.Proofs.YtklpopmjpgdjnaaGreatDoor
namespace Go.Proofs.YtklpopmjpgdjnaaGreatDoor

theorem text_small (q : Rd) : q.text.1.size ≤ 65535 := by
  have h1 := Rd.bytes_size_le (q.num 2).2 (q.num 2).1
  have h2 : (q.num 2).1 < 65536 := Rd.num_lt q 2
  show ((q.num 2).2.bytes (q.num 2).1).1.size ≤ 65535
  omega
theorem bytes_small (q : Rd) (n : Int) (h : q.s.size ≤ 8192) : (q.bytes n).1.size ≤ 8192 := by
  unfold Rd.bytes
  repeat' split
  · exact Nat.zero_le _
  · exact Nat.zero_le _
  · exact Nat.zero_le _
  · show (q.s.extract q.at_ (q.at_ + n.toNat)).size ≤ 8192
    rw [ByteArray.size_extract]
    omega
theorem nextS_small (b : ByteArray) : (nextS b).1.n.size ≤ 65535 ∧ (nextS b).1.u.size ≤ 65535 ∧ (nextS b).1.g.size ≤ 65535 ∧ (nextS b).1.m.size ≤ 65535 := by
  unfold nextS
  split
  · exact ⟨Nat.zero_le _, Nat.zero_le _, Nat.zero_le _, Nat.zero_le _⟩
  · split
    · exact ⟨Nat.zero_le _, Nat.zero_le _, Nat.zero_le _, Nat.zero_le _⟩
    · exact ⟨text_small _, text_small _, text_small _, text_small _⟩
theorem decS_small (b : ByteArray) : (decS b).1.n.size ≤ 65535 ∧ (decS b).1.u.size ≤ 65535 ∧ (decS b).1.g.size ≤ 65535 ∧ (decS b).1.m.size ≤ 65535 := by
  unfold decS
  split
  · exact ⟨Nat.zero_le _, Nat.zero_le _, Nat.zero_le _, Nat.zero_le _⟩
  · split
    · exact ⟨Nat.zero_le _, Nat.zero_le _, Nat.zero_le _, Nat.zero_le _⟩
    · exact nextS_small b
theorem decS_ok (b : ByteArray) : (decS b).1.Ok := by
  unfold decS
  split
  · exact St.zero_ok
  · split
    · exact St.zero_ok
    · exact nextS_ok b
theorem rdTexts_small (k : Nat) : ∀ (q : Rd) (acc : List ByteArray), (∀ s ∈ acc, s.size ≤ 262144) → (∀ s ∈ (rdTexts k q acc).1, s.size ≤ 262144) ∧ (rdTexts k q acc).1.length ≤ acc.length + k := by
  induction k with
  | zero => exact fun q acc h => ⟨h, Nat.le_refl _⟩
  | succ k ih =>
    intro q acc h
    unfold rdTexts
    split
    · exact ⟨h, Nat.le_add_right _ _⟩
    · have := ih q.text.2 (acc ++ [q.text.1]) (fun s hs => by
        rcases List.mem_append.1 hs with hs | hs
        · exact h s hs
        · rw [List.mem_singleton.1 hs]; have := text_small q; omega)
      refine ⟨this.1, ?_⟩
      have := this.2
      rw [List.length_append, List.length_singleton] at this
      omega
theorem rdQids_small (k : Nat) : ∀ (q : Rd) (acc : List Qd), (∀ s ∈ acc, s.Ok) → (∀ s ∈ (rdQids k q acc).1, s.Ok) ∧ (rdQids k q acc).1.length ≤ acc.length + k := by
  induction k with
  | zero => exact fun q acc h => ⟨h, Nat.le_refl _⟩
  | succ k ih =>
    intro q acc h
    unfold rdQids
    split
    · exact ⟨h, Nat.le_add_right _ _⟩
    · have := ih (rdQid q).2 (acc ++ [(rdQid q).1]) (fun s hs => by
        rcases List.mem_append.1 hs with hs | hs
        · exact h s hs
        · rw [List.mem_singleton.1 hs]; exact ⟨Rd.num_lt _ 1, Rd.num_lt _ 4, Rd.num_lt _ 8⟩)
      refine ⟨this.1, ?_⟩
      have := this.2
      rw [List.length_append, List.length_singleton] at this
      omega
theorem rd_ok {s : Re} (h : s.m.Ok) (f : Fld) : (Fld.rd s f).m.Ok := by
  obtain ⟨h0, h1, h2, h3, h4, h5, h6, h7, h8, h9, h10, h11, h12, h13, h14⟩ := h
  cases f
  all_goals refine ⟨?_, ?_, ?_, ?_, ?_, ?_, ?_, ?_, ?_, ?_, ?_, ?_, ?_, ?_, ?_⟩
  all_goals first
    | assumption
    | exact Rd.num_lt _ 1
    | exact Rd.num_lt _ 2
    | exact Rd.num_lt _ 4
    | exact Rd.num_lt _ 8
    | exact decS_ok _
    | exact ⟨Rd.num_lt _ 1, Rd.num_lt _ 4, Rd.num_lt _ 8⟩
    | exact (rdQids_small _ _ [] (fun s hs => by cases hs)).1
theorem rdTexts_s' (k : Nat) : ∀ (q : Rd) (acc : List ByteArray), (rdTexts k q acc).2.s = q.s := by
  induction k with
  | zero => exact fun q acc => rfl
  | succ k ih =>
    intro q acc
    unfold rdTexts
    split
    · rfl
    · exact (ih _ _).trans (Rd.text_s q)
theorem rdQid_s' (q : Rd) : (rdQid q).2.s = q.s := (Rd.num_s _ 8).trans ((Rd.num_s _ 4).trans (Rd.num_s q 1))
theorem rdQids_s' (k : Nat) : ∀ (q : Rd) (acc : List Qd), (rdQids k q acc).2.s = q.s := by
  induction k with
  | zero => exact fun q acc => rfl
  | succ k ih =>
    intro q acc
    unfold rdQids
    split
    · rfl
    · exact (ih _ _).trans (rdQid_s' q)
theorem rd_s' (s : Re) (f : Fld) : (Fld.rd s f).q.s = s.q.s := by
  cases f
  all_goals first
    | exact Rd.num_s _ _
    | exact Rd.text_s _
    | exact rdQid_s' _
    | exact (rdTexts_s' _ _ _).trans (Rd.num_s _ _)
    | exact (rdQids_s' _ _ _).trans (Rd.num_s _ _)
    | exact (Rd.bytes_s _ _).trans (Rd.num_s _ _)
theorem num_small2 (q : Rd) : (q.num 2).1 ≤ 1000000 := by
  have h : (q.num 2).1 < 65536 := Rd.num_lt q 2
  omega
theorem names_small (s : Re) : (∀ x ∈ (Fld.rd s .names).m.names, x.size ≤ 262144) ∧ (Fld.rd s .names).m.names.length ≤ 1000000 := by
  have h := rdTexts_small (s.q.num 2).1 (s.q.num 2).2 [] (fun s hs => by cases hs)
  refine ⟨h.1, ?_⟩
  have h2 := num_small2 s.q
  show (rdTexts (s.q.num 2).1 (s.q.num 2).2 []).1.length ≤ 1000000
  have := h.2
  simp only [List.length_nil] at this
  omega
theorem qids_small (s : Re) : (Fld.rd s .qids).m.qids.length ≤ 1000000 := by
  have h := rdQids_small (s.q.num 2).1 (s.q.num 2).2 [] (fun s hs => by cases hs)
  have h2 := num_small2 s.q
  show (rdQids (s.q.num 2).1 (s.q.num 2).2 []).1.length ≤ 1000000
  have := h.2
  simp only [List.length_nil] at this
  omega
theorem rd_small {s : Re} (h : s.m.Small) (hs : s.q.s.size ≤ 8192) (f : Fld) : (Fld.rd s f).m.Small := by
  have ht : s.q.text.1.size ≤ 262144 := Nat.le_trans (text_small _) (by decide)
  obtain ⟨h0, h1, h2, h3, h4, h5, h6, h7, h8, h9⟩ := h
  cases f
  case version => exact ⟨ht, h1, h2, h3, h4, h5, h6, h7, h8, h9⟩
  case uname => exact ⟨h0, ht, h2, h3, h4, h5, h6, h7, h8, h9⟩
  case aname => exact ⟨h0, h1, ht, h3, h4, h5, h6, h7, h8, h9⟩
  case ename => exact ⟨h0, h1, h2, ht, h4, h5, h6, h7, h8, h9⟩
  case name => exact ⟨h0, h1, h2, h3, ht, h5, h6, h7, h8, h9⟩
  case data => exact ⟨h0, h1, h2, h3, h4, Nat.le_trans (bytes_small _ _ (by rw [Rd.num_s]; exact hs)) (by decide), h6, h7, h8, h9⟩
  case stat =>
    have hd := decS_small (rdStatB s.q).1
    exact ⟨h0, h1, h2, h3, h4, h5, ⟨Nat.le_trans hd.1 (by decide), Nat.le_trans hd.2.1 (by decide), Nat.le_trans hd.2.2.1 (by decide), Nat.le_trans hd.2.2.2 (by decide)⟩, h7, h8, h9⟩
  case names => exact ⟨h0, h1, h2, h3, h4, h5, h6, (names_small s).1, (names_small s).2, h9⟩
  case qids => exact ⟨h0, h1, h2, h3, h4, h5, h6, h7, h8, qids_small s⟩
  all_goals exact ⟨h0, h1, h2, h3, h4, h5, h6, h7, h8, h9⟩
theorem rds_ok (l : List Fld) : ∀ {s : Re}, s.m.Ok → (l.foldl Fld.rd s).m.Ok := by
  induction l with
  | nil => exact fun h => h
  | cons f l ih => exact fun h => ih (rd_ok h f)
theorem rds_small (l : List Fld) : ∀ {s : Re}, s.m.Small → s.q.s.size ≤ 8192 → (l.foldl Fld.rd s).m.Small := by
  induction l with
  | nil => exact fun h _ => h
  | cons f l ih => exact fun h hs => ih (rd_small h hs f) (by rw [rd_s']; exact hs)
theorem rds_s (l : List Fld) : ∀ {s : Re}, (l.foldl Fld.rd s).q.s = s.q.s := by
  induction l with
  | nil => exact rfl
  | cons f l ih => exact ih.trans (rd_s' _ f)
theorem zero_small (t g : Nat) : ({ Msg.zero with ty := t, tag := g } : Msg).Small :=
  ⟨Nat.zero_le _, Nat.zero_le _, Nat.zero_le _, Nat.zero_le _, Nat.zero_le _, Nat.zero_le _, ⟨Nat.zero_le _, Nat.zero_le _, Nat.zero_le _, Nat.zero_le _⟩, fun _ h => (by cases h), Nat.zero_le _, Nat.zero_le _⟩
theorem zero_ok (t g : Nat) (ht : t < 256) (hg : g < 65536) : ({ Msg.zero with ty := t, tag := g } : Msg).Ok :=
  ⟨ht, hg, (show (0 : Nat) < _ from Nat.zero_lt_succ _), (show (0 : Nat) < _ from Nat.zero_lt_succ _), (show (0 : Nat) < _ from Nat.zero_lt_succ _), (show (0 : Nat) < _ from Nat.zero_lt_succ _), (show (0 : Nat) < _ from Nat.zero_lt_succ _), Qd.zero_ok, fun _ h => (by cases h), (show (0 : Nat) < _ from Nat.zero_lt_succ _), (show (0 : Nat) < _ from Nat.zero_lt_succ _), (show (0 : Nat) < _ from Nat.zero_lt_succ _), (show (0 : Nat) < _ from Nat.zero_lt_succ _), (show (0 : Nat) < _ from Nat.zero_lt_succ _), St.zero_ok⟩
theorem decR_small (t g : Nat) (rest : ByteArray) (l : List Fld) (h : rest.size ≤ 8192) : (decR t g rest l).m.Small := rds_small l (zero_small t g) h
theorem decR_ok (t g : Nat) (rest : ByteArray) (l : List Fld) (ht : t < 256) (hg : g < 65536) : (decR t g rest l).m.Ok := rds_ok l (zero_ok t g ht hg)
end Go.Proofs.YtklpopmjpgdjnaaGreatDoor
namespace Go.Proofs.YtklpopmjpgdjnaaGreatDoor

def Msg.bare (t g : Nat) : Msg := { Msg.zero with ty := t, tag := g }
set_option maxHeartbeats 2000000 in
theorem clear_clear (m : Msg) (f g : Fld) : Fld.clear (Fld.clear m f) g = Fld.clear (Fld.clear m g) f := by cases f <;> cases g <;> rfl
theorem clears_clear (l : List Fld) : ∀ (m : Msg) (f : Fld), l.foldl Fld.clear (Fld.clear m f) = Fld.clear (l.foldl Fld.clear m) f := by
  induction l with
  | nil => exact fun m f => rfl
  | cons g l ih =>
    intro m f
    show l.foldl Fld.clear (Fld.clear (Fld.clear m f) g) = Fld.clear (l.foldl Fld.clear (Fld.clear m g)) f
    rw [clear_clear, ih]
theorem clear_rd (s : Re) (f : Fld) : Fld.clear (Fld.rd s f).m f = Fld.clear s.m f := by cases f <;> rfl
theorem clears_rds (l : List Fld) : ∀ (s : Re), l.foldl Fld.clear (l.foldl Fld.rd s).m = l.foldl Fld.clear s.m := by
  induction l with
  | nil => exact fun s => rfl
  | cons f l ih =>
    intro s
    show l.foldl Fld.clear (Fld.clear (l.foldl Fld.rd (Fld.rd s f)).m f) = l.foldl Fld.clear (Fld.clear s.m f)
    rw [clears_clear, ih, ← clears_clear, clear_rd]
theorem clear_bare (t g : Nat) (f : Fld) : Fld.clear (Msg.bare t g) f = Msg.bare t g := by cases f <;> rfl
theorem clears_bare (t g : Nat) (l : List Fld) : l.foldl Fld.clear (Msg.bare t g) = Msg.bare t g := by
  induction l with
  | nil => rfl
  | cons f l ih => rw [List.foldl_cons, clear_bare, ih]
theorem clear_ty (m : Msg) (f : Fld) : (Fld.clear m f).ty = m.ty ∧ (Fld.clear m f).tag = m.tag := by cases f <;> exact ⟨rfl, rfl⟩
theorem clears_ty (l : List Fld) : ∀ (m : Msg), (l.foldl Fld.clear m).ty = m.ty ∧ (l.foldl Fld.clear m).tag = m.tag := by
  induction l with
  | nil => exact fun m => ⟨rfl, rfl⟩
  | cons f l ih => exact fun m => ⟨(ih _).1.trans (clear_ty m f).1, (ih _).2.trans (clear_ty m f).2⟩
theorem rd_ty (s : Re) (f : Fld) : (Fld.rd s f).m.ty = s.m.ty ∧ (Fld.rd s f).m.tag = s.m.tag := by cases f <;> exact ⟨rfl, rfl⟩
theorem rds_ty (l : List Fld) : ∀ (s : Re), (l.foldl Fld.rd s).m.ty = s.m.ty ∧ (l.foldl Fld.rd s).m.tag = s.m.tag := by
  induction l with
  | nil => exact fun s => ⟨rfl, rfl⟩
  | cons f l ih => exact fun s => ⟨(ih _).1.trans (rd_ty s f).1, (ih _).2.trans (rd_ty s f).2⟩
set_option maxHeartbeats 2000000 in
theorem set_clear (m x : Msg) {f g : Fld} (h : f ≠ g) : setF m (Fld.clear x g) f = Fld.clear (setF m x f) g := by
  cases f <;> cases g <;> first | exact absurd rfl h | rfl
theorem set_clears (m : Msg) (l : List Fld) : ∀ (x : Msg) {f : Fld}, f ∉ l → setF m (l.foldl Fld.clear x) f = l.foldl Fld.clear (setF m x f) := by
  induction l with
  | nil => exact fun x f _ => rfl
  | cons g l ih =>
    intro x f h
    rw [List.foldl_cons, List.foldl_cons, ih _ (fun y => h (List.mem_cons_of_mem _ y)), set_clear m x (fun y => h (by rw [y]; exact List.mem_cons_self ..))]
theorem set_clear_self (m x : Msg) (f : Fld) : setF m (Fld.clear x f) f = setF m x f := by cases f <;> rfl
theorem set_self (m : Msg) (f : Fld) : setF m m f = m := by cases f <;> rfl
theorem set_all (m : Msg) (l : List Fld) : ∀ (x : Msg), l.Nodup → l.foldl Fld.clear x = l.foldl Fld.clear m → l.foldl (setF m) x = m := by
  induction l with
  | nil => exact fun x _ h => h
  | cons f l ih =>
    intro x hnd h
    obtain ⟨hf, hnd⟩ := List.nodup_cons.1 hnd
    have h : l.foldl Fld.clear (Fld.clear x f) = l.foldl Fld.clear (Fld.clear m f) := h
    refine ih (setF m x f) hnd ?_
    have h2 : setF m (l.foldl Fld.clear (Fld.clear x f)) f = setF m (l.foldl Fld.clear (Fld.clear m f)) f := congrArg (fun y => setF m y f) h
    rw [set_clears m l _ hf, set_clears m l _ hf, set_clear_self, set_clear_self, set_self] at h2
    exact h2
theorem empty_size {b : ByteArray} (h : b.size = 0) : b = ByteArray.empty := by
  obtain ⟨d⟩ := b
  have h : d.size = 0 := h
  rw [Array.eq_empty_of_size_eq_zero h]
  rfl
theorem emptyM_bare {m : Msg} (h : emptyM m = true) : m = Msg.bare m.ty m.tag := by
  unfold emptyM at h
  simp only [Bool.and_eq_true, decide_eq_true_eq] at h
  obtain ⟨h1, h2, h3, ⟨h4, h5, h6⟩, h7⟩ := h
  rw [eqS_iff] at h7
  unfold Msg.ors at h1
  simp only [Nat.or_eq_zero_iff] at h1
  unfold Msg.txts at h2
  simp only [ByteArray.size_append] at h2
  obtain ⟨ty, tag, msize, version, fid, afid, newfid, oldtag, uname, aname, ename, name, names, ⟨qt, qv, qp⟩, qids, mode, perm, iounit, offset, count, data, stat⟩ := m
  simp only at *
  obtain ⟨⟨⟨⟨⟨⟨⟨⟨⟨a1, a2⟩, a3⟩, a4⟩, a5⟩, a6⟩, a7⟩, a8⟩, a9⟩, a10⟩ := h1
  have b1 := empty_size (show version.size = 0 by omega)
  have b2 := empty_size (show uname.size = 0 by omega)
  have b3 := empty_size (show aname.size = 0 by omega)
  have b4 := empty_size (show ename.size = 0 by omega)
  have b5 := empty_size (show name.size = 0 by omega)
  have b6 := empty_size (show data.size = 0 by omega)
  have c1 := List.eq_nil_of_length_eq_zero (show names.length = 0 by omega)
  have c2 := List.eq_nil_of_length_eq_zero (show qids.length = 0 by omega)
  subst a1 a2 a3 a4 a5 a6 a7 a8 a9 a10 b1 b2 b3 b4 b5 b6 c1 c2 h4 h5 h6 h7
  rfl
theorem bare_emptyM (t g : Nat) : emptyM (Msg.bare t g) = true := by
  unfold emptyM
  rw [show eqS (Msg.bare t g).stat St.zero = true from (eqS_iff _ _).2 rfl]
  simp [Msg.ors, Msg.txts, Msg.bare, Msg.zero, Qd.zero]
/-- which messages are written, and as what -/
theorem encM_ok {m : Msg} (h : (encM m).2 = 0) : ∃ l, fieldsOf m.ty = some l ∧ emptyM (l.foldl Fld.clear m) = true ∧ plainM m = true ∧ (∀ f ∈ l, fldOk m f) ∧ (l.flatMap (fldB m)).length + 7 ≤ 8192 ∧
    encM m = (bs (leBytes 4 ((l.flatMap (fldB m)).length + 7) ++ leBytes 1 m.ty ++ leBytes 2 m.tag ++ l.flatMap (fldB m)), 0) := by
  unfold encM at h ⊢
  cases hf : fieldsOf m.ty with
  | none => rw [hf] at h; exact absurd h (show (240 : Int) ≠ 0 by decide)
  | some l =>
    rw [hf] at h
    simp only at h ⊢
    refine ⟨l, rfl, ?_⟩
    by_cases h1 : emptyM (l.foldl Fld.clear m) = false
    · rw [if_pos h1] at h; exact absurd h (show (2 : Int) ≠ 0 by decide)
    rw [if_neg h1] at h ⊢
    by_cases h2 : plainM m = false
    · rw [if_pos h2] at h; exact absurd h (show (241 : Int) ≠ 0 by decide)
    rw [if_neg h2] at h ⊢
    by_cases h3 : (l.foldl (Fld.wr m) ([], false)).2 = true ∨ 8192 < (l.foldl (Fld.wr m) ([], false)).1.length + 7
    · rw [if_pos h3] at h; exact absurd h (show (4 : Int) ≠ 0 by decide)
    rw [if_neg h3]
    have h4 := Classical.byContradiction (fun x => h3 ((wr_all m l).2 x))
    rw [wr_out m l h4]
    exact ⟨by simpa using h1, by simpa using h2, h4.1, h4.2, rfl⟩
theorem encM_is {m : Msg} {l : List Fld} (hf : fieldsOf m.ty = some l) (he : emptyM (l.foldl Fld.clear m) = true) (hp : plainM m = true) (h : (∀ f ∈ l, fldOk m f) ∧ (l.flatMap (fldB m)).length + 7 ≤ 8192) :
    encM m = (bs (leBytes 4 ((l.flatMap (fldB m)).length + 7) ++ leBytes 1 m.ty ++ leBytes 2 m.tag ++ l.flatMap (fldB m)), 0) := by
  unfold encM
  rw [hf]
  simp only
  rw [if_neg (by rw [he]; simp), if_neg (by rw [hp]; simp), if_neg (fun x => (wr_all m l).1 x h), wr_out m l h]
theorem end_zero {q : Rd} (h : AtSplit q []) : q.end_ = 0 := by
  have := h.size
  unfold Rd.end_
  rw [if_neg (by rw [h.1]; simp), if_neg (by simp at this; omega)]
theorem zero_end {q : Rd} {rest : List UInt8} (h : q.end_ = 0) (ha : AtSplit q rest) : rest = [] := by
  have hs := ha.size
  unfold Rd.end_ at h
  rw [if_neg (by rw [ha.1]; simp)] at h
  refine List.eq_nil_of_length_eq_zero ?_
  split at h
  · omega
  · omega
theorem end_f {q : Rd} (h : q.end_ = 0) : q.f = 0 := by
  unfold Rd.end_ at h
  split at h
  · rename_i g; exact absurd h g
  · rename_i g; exact Decidable.not_not.1 g
theorem ext_split {q : Rd} {rest : List UInt8} (h : AtSplit q rest) : AtSplit ⟨q.s.extract q.at_ q.s.size, 0, 0⟩ rest := by
  refine ⟨rfl, Nat.zero_le _, ?_⟩
  show List.drop 0 (q.s.extract q.at_ q.s.size).data.toList = rest
  rw [List.drop_zero, show q.s.size = q.at_ + (q.s.size - q.at_) from by have := h.2.1; omega, extract_take, h.2.2]
  refine List.take_of_length_le ?_
  have := h.size
  omega
/-- what is written is read -/
theorem dec_encM (m : Msg) (hk : m.Ok) (hd : m.data.size < 4294967296) (h : (encM m).2 = 0) : decM (encM m).1 = (m, 0) := by
  obtain ⟨l, hf, he, hp, hok, hlen, hE⟩ := encM_ok h
  rw [hE]
  have hnd := fieldsOf_nodup hf
  show decM (bs (leBytes 4 ((l.flatMap (fldB m)).length + 7) ++ leBytes 1 m.ty ++ leBytes 2 m.tag ++ l.flatMap (fldB m))) = (m, 0)
  obtain ⟨s, hs⟩ : ∃ s, bs (leBytes 4 ((l.flatMap (fldB m)).length + 7) ++ leBytes 1 m.ty ++ leBytes 2 m.tag ++ l.flatMap (fldB m)) = s := ⟨_, rfl⟩
  rw [hs]
  have hsd : s.data.toList = leBytes 4 ((l.flatMap (fldB m)).length + 7) ++ (leBytes 1 m.ty ++ (leBytes 2 m.tag ++ l.flatMap (fldB m))) := by rw [← hs]; simp [bs]
  have hsz : s.size = (l.flatMap (fldB m)).length + 7 := by
    rw [← bsize, hsd]
    simp only [List.length_append, leBytes_length]
    omega
  have h0 : AtSplit ⟨s, 0, 0⟩ (leBytes 4 ((l.flatMap (fldB m)).length + 7) ++ (leBytes 1 m.ty ++ (leBytes 2 m.tag ++ l.flatMap (fldB m)))) := ⟨rfl, Nat.zero_le _, by show List.drop 0 s.data.toList = _; rw [List.drop_zero, hsd]⟩
  obtain ⟨e1, h1⟩ := h0.num (show _ < 4294967296 by omega)
  obtain ⟨e2, h2⟩ := h1.num (show m.ty < 256 from hk.ty)
  obtain ⟨e3, h3⟩ := h2.num (show m.tag < 65536 from hk.tag)
  have hH : hd3 s = ((l.flatMap (fldB m)).length + 7, m.ty, m.tag, ⟨s, 0 + 4 + 1 + 2, 0⟩) := by
    unfold hd3
    simp only [e1, e2, e3]
  have hx := ext_split h3
  obtain ⟨q', er, ha, _⟩ := rd_flds m hk hd l (Msg.bare m.ty m.tag) ⟨s.extract (0 + 4 + 1 + 2) s.size, 0, 0⟩ [] hok (by rw [List.append_nil]; exact hx)
  have hset : l.foldl (setF m) (Msg.bare m.ty m.tag) = m := by
    refine set_all m l _ hnd ?_
    rw [clears_bare]
    have := emptyM_bare he
    rw [(clears_ty l m).1, (clears_ty l m).2] at this
    exact this.symm
  rw [hset] at er
  have hR : decR m.ty m.tag (s.extract (0 + 4 + 1 + 2) s.size) l = ⟨m, q', false, false⟩ := er
  unfold decM decH
  rw [hH]
  simp only
  rw [if_neg (by simp), if_neg (by rw [hsz]; simp), if_neg (by omega), hf]
  simp only
  rw [hR]
  unfold decE
  simp only
  rw [end_zero ha, if_neg (by simp), if_neg (by rw [hp]; simp), if_neg (by simp)]
theorem fields_lt {t : Nat} {l : List Fld} (h : fieldsOf t = some l) : t < 128 := by
  unfold fieldsOf at h
  split at h <;> first | omega | cases h
/-- what is read is written as those bytes -/
theorem enc_decM (s : ByteArray) (h : (decM s).2 = 0) : encM (decM s).1 = (s, 0) ∧ (decM s).1.Ok ∧ (decM s).1.Small := by
  have hD : decM s = decH (hd3 s) s := rfl
  have h0 : AtSplit ⟨s, 0, 0⟩ s.data.toList := ⟨rfl, Nat.zero_le _, List.drop_zero ..⟩
  have hH : hd3 s = ((Rd.num ⟨s, 0, 0⟩ 4).1, ((Rd.num ⟨s, 0, 0⟩ 4).2.num 1).1, (((Rd.num ⟨s, 0, 0⟩ 4).2.num 1).2.num 2).1, (((Rd.num ⟨s, 0, 0⟩ 4).2.num 1).2.num 2).2) := rfl
  rw [hH] at hD
  unfold decH at hD
  simp only at hD
  by_cases g1 : (((Rd.num ⟨s, 0, 0⟩ 4).2.num 1).2.num 2).2.f ≠ 0
  · rw [if_pos g1] at hD; rw [hD] at h; exact absurd h (show (50 : Int) ≠ 0 by decide)
  rw [if_neg g1] at hD
  by_cases g2 : (Rd.num ⟨s, 0, 0⟩ 4).1 ≠ s.size
  · rw [if_pos g2] at hD; rw [hD] at h; exact absurd h (show (51 : Int) ≠ 0 by decide)
  rw [if_neg g2] at hD
  by_cases g3 : 8192 < s.size
  · rw [if_pos g3] at hD; rw [hD] at h; exact absurd h (show (4 : Int) ≠ 0 by decide)
  rw [if_neg g3] at hD
  have f3 := Decidable.not_not.1 g1
  have f2 := (Rd.num_adv f3).1
  have f1 := (Rd.num_adv f2).1
  obtain ⟨r1, e1, h1⟩ := h0.unnum f1
  obtain ⟨r2, e2, h2⟩ := h1.unnum f2
  obtain ⟨r3, e3, h3⟩ := h2.unnum f3
  have hs3 : (((Rd.num ⟨s, 0, 0⟩ 4).2.num 1).2.num 2).2.s = s := by rw [Rd.num_s, Rd.num_s, Rd.num_s]
  have ht := Rd.num_lt (Rd.num ⟨s, 0, 0⟩ 4).2 1
  have hg := Rd.num_lt ((Rd.num ⟨s, 0, 0⟩ 4).2.num 1).2 2
  generalize (((Rd.num ⟨s, 0, 0⟩ 4).2.num 1).2.num 2).2 = r at *
  generalize (((Rd.num ⟨s, 0, 0⟩ 4).2.num 1).2.num 2).1 = g at *
  generalize ((Rd.num ⟨s, 0, 0⟩ 4).2.num 1).1 = t at *
  have hn := Decidable.not_not.1 g2
  rw [hn] at e1
  cases hf : fieldsOf t with
  | none => rw [hf] at hD; rw [hD] at h; exact absurd h (show (240 : Int) ≠ 0 by decide)
  | some l =>
    rw [hf] at hD
    simp only at hD
    have hnd := fieldsOf_nodup hf
    have hx := ext_split h3
    have hsm := decR_small t g (r.s.extract r.at_ r.s.size) l (by rw [ByteArray.size_extract, hs3]; omega)
    have hko := decR_ok t g (r.s.extract r.at_ r.s.size) l ht hg
    have hcl := clears_rds l ⟨Msg.bare t g, ⟨r.s.extract r.at_ r.s.size, 0, 0⟩, false, false⟩
    have hty := rds_ty l ⟨Msg.bare t g, ⟨r.s.extract r.at_ r.s.size, 0, 0⟩, false, false⟩
    have hun := un_flds l ⟨Msg.bare t g, ⟨r.s.extract r.at_ r.s.size, 0, 0⟩, false, false⟩ r3 hnd hx
    rw [clears_bare] at hcl
    have hR : decR t g (r.s.extract r.at_ r.s.size) l = l.foldl Fld.rd ⟨Msg.bare t g, ⟨r.s.extract r.at_ r.s.size, 0, 0⟩, false, false⟩ := rfl
    rw [hR] at hD hsm hko
    generalize l.foldl Fld.rd ⟨Msg.bare t g, ⟨r.s.extract r.at_ r.s.size, 0, 0⟩, false, false⟩ = R at *
    unfold decE at hD
    by_cases k1 : R.q.end_ ≠ 0 ∨ R.wrong = true
    · rw [if_pos k1] at hD; rw [hD] at h; exact absurd h (show (51 : Int) ≠ 0 by decide)
    rw [if_neg k1] at hD
    by_cases k2 : plainM R.m = false
    · rw [if_pos k2] at hD; rw [hD] at h; exact absurd h (show (241 : Int) ≠ 0 by decide)
    rw [if_neg k2] at hD
    by_cases k3 : R.long = true
    · rw [if_pos k3] at hD; rw [hD] at h; exact absurd h (show (4 : Int) ≠ 0 by decide)
    rw [if_neg k3] at hD
    rw [hD]
    have q0 : R.q.end_ = 0 := Decidable.not_not.1 fun x => k1 (.inl x)
    have w0 : R.wrong = false := by
      cases hw : R.wrong
      · rfl
      · exact absurd (.inr hw) k1
    have l0 : R.long = false := by simpa using k3
    have p0 : plainM R.m = true := by simpa using k2
    obtain ⟨r4, e4, h4, hok⟩ := hun (end_f q0) l0 w0
    have hr4 := zero_end q0 h4
    subst hr4
    rw [List.append_nil] at e4
    have t1 : R.m.ty = t := hty.1
    have t2 : R.m.tag = g := hty.2
    have hsd : s.data.toList = leBytes 4 s.size ++ leBytes 1 t ++ leBytes 2 g ++ l.flatMap (fldB R.m) := by
      rw [e1, e2, e3, e4]
      simp only [List.append_assoc]
    have hsz : s.size = (l.flatMap (fldB R.m)).length + 7 := by
      have := congrArg List.length hsd
      rw [bsize] at this
      simp only [List.length_append, leBytes_length] at this
      omega
    refine ⟨?_, hko, hsm⟩
    rw [encM_is (m := R.m) (l := l) (by rw [t1]; exact hf) (by rw [hcl]; exact bare_emptyM t g) p0 ⟨hok, by omega⟩, t1, t2, ← hsz, ← hsd, bs_of]
end Go.Proofs.YtklpopmjpgdjnaaGreatDoor
