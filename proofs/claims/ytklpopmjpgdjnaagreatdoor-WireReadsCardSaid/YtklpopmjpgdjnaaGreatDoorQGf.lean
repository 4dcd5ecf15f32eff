/- What is read of a stat, byte by byte, plain.
   A window of a directory's stats, plain.
   What is written is read, and what is read is written, plain.
   A message written and read, plain: a field's bytes, and what a pen does with a row of fields.
   A message written is read, plain.
   A message read is written, plain. -/
import Derived.Test.YtklpopmjpgdjnaaGreatDoorQGa
set_option linter.unusedVariables false
set_option linter.unusedSimpArgs false
namespace Go.Proofs.YtklpopmjpgdjnaaGreatDoor

theorem Rd.bytes_in {q : Rd} {k : Nat} (hf : q.f = 0) (h : q.at_ + k ≤ q.s.size) : q.bytes k = (q.s.extract q.at_ (q.at_ + k), ⟨q.s, q.at_ + k, 0⟩) := by
  unfold Rd.bytes
  rw [if_neg (by omega), if_neg (by omega), if_neg (by simp only [Int.toNat_natCast]; omega)]
  simp only [Int.toNat_natCast]
theorem Rd.bytes_out {q : Rd} {k : Nat} (hf : q.f = 0) (h : q.s.size < q.at_ + k) : q.bytes k = (ByteArray.empty, ⟨q.s, q.at_, 50⟩) := by
  unfold Rd.bytes
  rw [if_neg (by omega), if_neg (by omega), if_pos (by simp only [Int.toNat_natCast]; omega)]
theorem Rd.bytes_adv {q : Rd} {k : Nat} (h : (q.bytes k).2.f = 0) : q.f = 0 ∧ q.at_ + k ≤ q.s.size ∧ (q.bytes k).2.at_ = q.at_ + k := by
  by_cases hf : q.f = 0
  · rcases Nat.lt_or_ge q.s.size (q.at_ + k) with g | g
    · rw [Rd.bytes_out hf g] at h
      exact absurd h (by simp)
    · rw [Rd.bytes_in hf g]
      exact ⟨hf, g, rfl⟩
  · rw [Rd.bytes_fault q _ hf] at h
    exact absurd h hf
theorem Rd.num_in {q : Rd} {k : Nat} (hf : q.f = 0) (h : q.at_ + k ≤ q.s.size) : q.num k = (leNat (q.s.extract q.at_ (q.at_ + k)).data.toList, ⟨q.s, q.at_ + k, 0⟩) := by
  unfold Rd.num
  rw [Rd.bytes_in hf h]
theorem Rd.num_adv {q : Rd} {k : Nat} (h : (q.num k).2.f = 0) : q.f = 0 ∧ q.at_ + k ≤ q.s.size ∧ (q.num k).2.at_ = q.at_ + k := Rd.bytes_adv h
/-- the bytes that a text's length says -/
def Rd.tl (q : Rd) : Nat := leNat (q.s.extract q.at_ (q.at_ + 2)).data.toList
theorem Rd.text_in {q : Rd} (hf : q.f = 0) (h : q.at_ + 2 + q.tl ≤ q.s.size) : q.text = (q.s.extract (q.at_ + 2) (q.at_ + 2 + q.tl), ⟨q.s, q.at_ + 2 + q.tl, 0⟩) := by
  unfold Rd.text
  rw [Rd.num_in hf (by omega)]
  simp only
  rw [show leNat (q.s.extract q.at_ (q.at_ + 2)).data.toList = q.tl from rfl, Rd.bytes_in (q := ⟨q.s, q.at_ + 2, 0⟩) rfl h]
  simp only [Rd.keep]
  rfl
theorem Rd.keep_f (q : Rd) (a : Nat) : (q.keep a).f = q.f := by unfold Rd.keep; split <;> rfl
theorem Rd.text_adv {q : Rd} (h : q.text.2.f = 0) : q.f = 0 ∧ q.at_ + 2 + q.tl ≤ q.s.size ∧ q.text.2.at_ = q.at_ + 2 + q.tl := by
  have h' := h
  unfold Rd.text at h'
  simp only [Rd.keep_f] at h'
  obtain ⟨h1, h2, h3⟩ := Rd.bytes_adv h'
  obtain ⟨h4, h5, h6⟩ := Rd.num_adv h1
  rw [Rd.num_in h4 h5] at h2
  have h2 : q.at_ + 2 + q.tl ≤ q.s.size := h2
  exact ⟨h4, h2, by rw [Rd.text_in h4 h2]⟩
theorem Rd.tq_fault {q : Rd} (h : q.f ≠ 0) (k : Nat) : q.tq k = q := by
  induction k with
  | zero => rfl
  | succ k ih => show (q.tq k).text.2 = q; rw [ih, Rd.text_fault q h]
theorem Rd.tq_add (q : Rd) (k m : Nat) : (q.tq k).tq m = q.tq (k + m) := by
  induction m with
  | zero => rfl
  | succ m ih => show ((q.tq k).tq m).text.2 = _; rw [ih]; rfl
theorem Rd.tq_stop {q : Rd} {k m : Nat} (hkm : k ≤ m) (h : (q.tq k).f ≠ 0) : (q.tq m).end_ ≠ 0 := by
  obtain ⟨d, rfl⟩ : ∃ d, m = k + d := ⟨m - k, by omega⟩
  rw [← Rd.tq_add, Rd.tq_fault h]
  unfold Rd.end_
  rw [if_pos h]
  exact h
theorem Rd.text_bad {q : Rd} (h : q.s.size < q.at_ + 2 + q.tl) : q.text.2.f ≠ 0 := fun h0 => by
  have := (Rd.text_adv h0).2.1
  omega
theorem Rd.text_bad1 {q : Rd} (h : q.s.size < q.at_ + 2) : q.text.2.f ≠ 0 := fun h0 => by
  have := (Rd.text_adv h0).2.1
  omega
theorem Rd.tq_adv {q : Rd} : ∀ {k : Nat}, (q.tq k).f = 0 → q.f = 0 ∧ q.at_ + 2 * k ≤ (q.tq k).at_
  | 0, h => ⟨h, Nat.le_refl _⟩
  | k + 1, h => by
    have h1 := Rd.text_adv (q := q.tq k) h
    have h2 := Rd.tq_adv h1.1
    have : (q.tq (k + 1)).at_ = _ := h1.2.2
    exact ⟨h2.1, by rw [this]; omega⟩
theorem end_short (s : ByteArray) (h : s.size < 47) : ((St.nq ⟨s, 0, 0⟩).tq 4).end_ ≠ 0 := by
  by_cases hf : ((St.nq ⟨s, 0, 0⟩).tq 4).f = 0
  · exfalso
    have hat := Rd.tq_at (St.nq ⟨s, 0, 0⟩) 4
    have hs := Rd.tq_s (St.nq ⟨s, 0, 0⟩) 4
    obtain ⟨h1, h2⟩ := Rd.tq_adv hf
    unfold St.nq at h1 h2 hat hs
    have g9 := Rd.num_adv h1
    have g8 := Rd.num_adv g9.1
    have g7 := Rd.num_adv g8.1
    have g6 := Rd.num_adv g7.1
    have g5 := Rd.num_adv g6.1
    have g4 := Rd.num_adv g5.1
    have g3 := Rd.num_adv g4.1
    have g2 := Rd.num_adv g3.1
    have g1 := Rd.num_adv g2.1
    have e1 := g1.2.2
    have e2 := g2.2.2
    have e3 := g3.2.2
    have e4 := g4.2.2
    have e5 := g5.2.2
    have e6 := g6.2.2
    have e7 := g7.2.2
    have e8 := g8.2.2
    have e9 := g9.2.2
    have hle := g9.2.1
    simp only [Rd.num_s] at hs hle hat
    have h3 := hat (by omega)
    rw [hs] at h3
    omega
  · unfold Rd.end_
    rw [if_pos hf]
    exact hf
theorem nextS_short1 {b : ByteArray} (h : b.size < 2) : nextS b = (St.zero, 0, 50) := by
  unfold nextS
  have h1 : (Rd.mk b 0 0).num 2 = (0, ⟨b, 0, 50⟩) := by unfold Rd.num; rw [Rd.bytes_out rfl (by show b.size < 0 + 2; omega)]; rfl
  rw [h1, Rd.bytes_fault _ _ (by simp)]
  rw [if_pos (by simp)]
def bodyLen (b : ByteArray) : Nat := leNat (b.extract 0 2).data.toList
theorem nextS_num {b : ByteArray} (h : 2 ≤ b.size) : (Rd.mk b 0 0).num 2 = (bodyLen b, ⟨b, 2, 0⟩) := Rd.num_in (q := ⟨b, 0, 0⟩) rfl (by show 0 + 2 ≤ b.size; omega)
theorem nextS_short2 {b : ByteArray} (h : 2 ≤ b.size) (h2 : b.size < 2 + bodyLen b) : nextS b = (St.zero, 0, 50) := by
  unfold nextS
  rw [nextS_num h]
  simp only
  rw [Rd.bytes_out (q := ⟨b, 2, 0⟩) rfl h2, if_pos (by simp)]
theorem nextS_body {b : ByteArray} (h : 2 ≤ b.size) (h2 : 2 + bodyLen b ≤ b.size) : nextS b = if ((St.nq ⟨b.extract 2 (2 + bodyLen b), 0, 0⟩).tq 4).end_ ≠ 0 then (St.zero, 0, 51) else (St.read ⟨b.extract 2 (2 + bodyLen b), 0, 0⟩, 2 + bodyLen b, 0) := by
  unfold nextS
  rw [nextS_num h]
  simp only
  rw [Rd.bytes_in (q := ⟨b, 2, 0⟩) rfl h2, if_neg (by simp)]
def xn (s : ByteArray) (i j : Nat) : Nat := leNat (s.extract i j).data.toList
theorem num_step (s : ByteArray) (a k : Nat) (h : a + k ≤ s.size) : (Rd.mk s a 0).num k = (xn s a (a + k), ⟨s, a + k, 0⟩) := Rd.num_in (q := ⟨s, a, 0⟩) rfl h
theorem read_full (s : ByteArray) (h : 39 ≤ s.size) : St.nq ⟨s, 0, 0⟩ = ⟨s, 39, 0⟩ ∧ St.read ⟨s, 0, 0⟩ = ⟨xn s 0 2, xn s 2 6, xn s 6 7, xn s 7 11, xn s 11 19, xn s 19 23, xn s 23 27, xn s 27 31, xn s 31 39,
    ((Rd.mk s 39 0).tq 0).text.1, ((Rd.mk s 39 0).tq 1).text.1, ((Rd.mk s 39 0).tq 2).text.1, ((Rd.mk s 39 0).tq 3).text.1⟩ := by
  have h1 := num_step s 0 2 (by omega)
  have h2 := num_step s 2 4 (by omega)
  have h3 := num_step s 6 1 (by omega)
  have h4 := num_step s 7 4 (by omega)
  have h5 := num_step s 11 8 (by omega)
  have h6 := num_step s 19 4 (by omega)
  have h7 := num_step s 23 4 (by omega)
  have h8 := num_step s 27 4 (by omega)
  have h9 := num_step s 31 8 (by omega)
  simp only [Nat.zero_add, Nat.reduceAdd] at h1 h2 h3 h4 h5 h6 h7 h8 h9
  unfold St.nq St.read
  simp only [h1, h2, h3, h4, h5, h6, h7, h8, h9]
  exact ⟨trivial, trivial⟩
end Go.Proofs.YtklpopmjpgdjnaaGreatDoor
namespace Go.Proofs.YtklpopmjpgdjnaaGreatDoor

def encB (s : St) : ByteArray := (encS s).1
def szB (l : List ByteArray) : Nat := (l.map ByteArray.size).sum
/-- the stats from place off on -/
def dropTo (off : Nat) : List ByteArray → Nat → Option (List ByteArray)
  | [], a => if a = off then some [] else none
  | b :: l, a => if a = off then some (b :: l) else dropTo off l (a + b.size)
/-- as many as fit -/
def fillW (count : Nat) : List ByteArray → ByteArray → ByteArray
  | [], acc => acc
  | b :: l, acc => if count < acc.size + b.size then acc else fillW count l (acc ++ b)
def winS (L : List St) (off count : Nat) : ByteArray × Int :=
  if ∀ s ∈ L, (encS s).2 = 0 then
    match dropTo off (L.map encB) 0 with
    | none => (ByteArray.empty, 2)
    | some [] => (ByteArray.empty, 0)
    | some (b :: l) => if count < b.size then (ByteArray.empty, 50) else (fillW count (b :: l) ByteArray.empty, 0)
  else (ByteArray.empty, 4)
theorem encS_bad {s : St} (h : (encS s).2 ≠ 0) : (encS s).2 = 4 := by
  unfold encS at *
  split at h
  · rename_i g; rw [if_pos g]
  · exact absurd rfl h
theorem encB_size {s : St} (h : (encS s).2 = 0) : 49 ≤ (encB s).size ∧ (encB s).size ≤ 65537 ∧ (encB s).size = 2 + s.tot := by
  unfold encB
  unfold encS at *
  split at h
  · exact absurd h (by decide)
  · rename_i g
    rw [if_neg g]
    rw [bs_size, List.length_append, leBytes_length, St.body_length]
    have : 47 ≤ s.tot := by unfold St.tot; omega
    omega
theorem encB_le (s : St) : (encB s).size ≤ 65537 := by
  by_cases h : (encS s).2 = 0
  · exact (encB_size h).2.1
  · have : encB s = ByteArray.empty := by
      unfold encB
      unfold encS at *
      split at h
      · rename_i g; rw [if_pos g]
      · exact absurd rfl h
    rw [this]; decide
theorem winS_bad {L : List St} {s : St} {off count : Nat} (hs : s ∈ L) (h : (encS s).2 ≠ 0) : winS L off count = (ByteArray.empty, 4) := by
  unfold winS
  rw [if_neg (fun g => h (g s hs))]
theorem winS_ok {L : List St} {off count : Nat} (h : ∀ s ∈ L, (encS s).2 = 0) : winS L off count = match dropTo off (L.map encB) 0 with
    | none => (ByteArray.empty, 2)
    | some [] => (ByteArray.empty, 0)
    | some (b :: l) => if count < b.size then (ByteArray.empty, 50) else (fillW count (b :: l) ByteArray.empty, 0) := by
  unfold winS
  rw [if_pos h]
theorem szB_succ (B : List ByteArray) (k : Nat) (h : k < B.length) : szB (B.take (k + 1)) = szB (B.take k) + B[k].size := by
  rw [List.take_succ_eq_append_getElem h]
  simp only [szB, List.map_append, List.sum_append, List.map_cons, List.map_nil, List.sum_cons, List.sum_nil, Nat.add_zero]
theorem szB_le (B : List ByteArray) (M : Nat) (h : ∀ b ∈ B, b.size ≤ M) : szB B ≤ B.length * M := by
  induction B with
  | nil => simp [szB]
  | cons a l ih =>
    have h1 := ih fun s hs => h s (List.mem_cons_of_mem _ hs)
    have h2 := h a (List.mem_cons_self ..)
    simp only [szB, List.map_cons, List.sum_cons, List.length_cons] at *
    rw [Nat.add_mul]
    omega
theorem szB_enc (L : List St) (k : Nat) (h : L.length ≤ 60) : szB ((L.map encB).take k) ≤ 60 * 65537 := by
  refine Nat.le_trans (szB_le _ 65537 fun b hb => ?_) (Nat.mul_le_mul (by rw [List.length_take, List.length_map]; omega) (Nat.le_refl _))
  obtain ⟨s, _, rfl⟩ := List.mem_map.1 (List.mem_of_mem_take hb)
  exact encB_le s
theorem dropTo_hit (off : Nat) (B : List ByteArray) (k : Nat) (hk : k < B.length) (h : szB (B.take k) = off) : dropTo off (B.drop k) (szB (B.take k)) = some (B.drop k) := by
  rw [List.drop_eq_getElem_cons hk, dropTo, if_pos h]
theorem dropTo_miss (off : Nat) (B : List ByteArray) (k : Nat) (hk : k < B.length) (h : szB (B.take k) ≠ off) : dropTo off (B.drop k) (szB (B.take k)) = dropTo off (B.drop (k + 1)) (szB (B.take (k + 1))) := by
  rw [List.drop_eq_getElem_cons hk, dropTo, if_neg h, szB_succ B k hk]
theorem dropTo_end (off : Nat) (B : List ByteArray) : dropTo off (B.drop B.length) (szB (B.take B.length)) = if szB B = off then some [] else none := by
  rw [List.drop_length, List.take_length, dropTo]
theorem fillW_go (count : Nat) (l : List ByteArray) (k : Nat) (hk : k < l.length) (acc : ByteArray) (h : ¬ count < acc.size + l[k].size) : fillW count (l.drop k) acc = fillW count (l.drop (k + 1)) (acc ++ l[k]) := by
  rw [List.drop_eq_getElem_cons hk, fillW, if_neg h]
theorem fillW_stop (count : Nat) (l : List ByteArray) (k : Nat) (hk : k < l.length) (acc : ByteArray) (h : count < acc.size + l[k].size) : fillW count (l.drop k) acc = acc := by
  rw [List.drop_eq_getElem_cons hk, fillW, if_pos h]
theorem fillW_end (count : Nat) (l : List ByteArray) (acc : ByteArray) : fillW count (l.drop l.length) acc = acc := by
  rw [List.drop_length, fillW]
end Go.Proofs.YtklpopmjpgdjnaaGreatDoor
namespace Go.Proofs.YtklpopmjpgdjnaaGreatDoor

/-- a reader of bytes, split at its place -/
def AtSplit (q : Rd) (rest : List UInt8) : Prop := q.f = 0 ∧ q.at_ ≤ q.s.size ∧ q.s.data.toList.drop q.at_ = rest
theorem bsize (b : ByteArray) : b.data.toList.length = b.size := Array.length_toList
theorem extract_take (b : ByteArray) (i k : Nat) : (b.extract i (i + k)).data.toList = (b.data.toList.drop i).take k := by
  rw [ByteArray.data_extract, Array.toList_extract, List.extract_eq_take_drop]
  congr 1
  omega
theorem AtSplit.size {q : Rd} {rest : List UInt8} (h : AtSplit q rest) : q.at_ + rest.length = q.s.size := by
  obtain ⟨_, h2, h3⟩ := h
  have := congrArg List.length h3
  rw [List.length_drop, bsize] at this
  omega
theorem AtSplit.bytes {q : Rd} {l rest : List UInt8} (h : AtSplit q (l ++ rest)) : q.bytes l.length = (bs l, ⟨q.s, q.at_ + l.length, 0⟩) ∧ AtSplit ⟨q.s, q.at_ + l.length, 0⟩ rest := by
  have hs := h.size
  obtain ⟨h1, h2, h3⟩ := h
  rw [List.length_append] at hs
  constructor
  · rw [Rd.bytes_in h1 (by omega)]
    congr 1
    apply ByteArray.ext
    apply Array.toList_inj.1
    rw [extract_take, h3, List.take_left']
    · simp [bs]
    · rfl
  · refine ⟨rfl, by show q.at_ + l.length ≤ q.s.size; omega, ?_⟩
    show q.s.data.toList.drop (q.at_ + l.length) = rest
    rw [← List.drop_drop, h3, List.drop_left']
    rfl
theorem AtSplit.num {q : Rd} {k x : Nat} {rest : List UInt8} (hx : x < 2 ^ (8 * k)) (h : AtSplit q (leBytes k x ++ rest)) : q.num k = (x, ⟨q.s, q.at_ + k, 0⟩) ∧ AtSplit ⟨q.s, q.at_ + k, 0⟩ rest := by
  have h' := h.bytes
  rw [leBytes_length] at h'
  refine ⟨?_, h'.2⟩
  unfold Rd.num
  rw [h'.1]
  congr 1
  show leNat (bs (leBytes k x)).data.toList = x
  rw [show (bs (leBytes k x)).data.toList = leBytes k x from by simp [bs], leNat_leBytes, Nat.mod_eq_of_lt hx]
theorem AtSplit.text {q : Rd} {t : ByteArray} {rest : List UInt8} (ht : t.size < 65536) (h : AtSplit q (txt t ++ rest)) : q.text = (t, ⟨q.s, q.at_ + (2 + t.size), 0⟩) ∧ AtSplit ⟨q.s, q.at_ + (2 + t.size), 0⟩ rest := by
  unfold txt at h
  rw [List.append_assoc] at h
  obtain ⟨h1, h2⟩ := h.num (by exact ht)
  obtain ⟨h3, h4⟩ := h2.bytes
  rw [bsize] at h3 h4
  rw [Nat.add_assoc] at h4
  refine ⟨?_, h4⟩
  unfold Rd.text
  rw [h1]
  simp only
  rw [h3]
  simp only [Rd.keep]
  rw [Nat.add_assoc, bs_of]
  rfl
theorem read_body (s : St) (B : ByteArray) (hB : B.data.toList = s.body) (hk : s.Ok) (hn : s.n.size < 65536) (hu : s.u.size < 65536) (hg : s.g.size < 65536) (hm : s.m.size < 65536) :
    St.read ⟨B, 0, 0⟩ = s ∧ ((St.nq ⟨B, 0, 0⟩).tq 4).end_ = 0 := by
  have h0 : AtSplit ⟨B, 0, 0⟩ s.body := ⟨rfl, Nat.zero_le _, by show List.drop 0 B.data.toList = _; rw [List.drop_zero]; exact hB⟩
  unfold St.body St.nums qidL at h0
  simp only [List.append_assoc] at h0
  obtain ⟨e1, h1⟩ := h0.num hk.ty
  obtain ⟨e2, h2⟩ := h1.num hk.dev
  obtain ⟨e3, h3⟩ := h2.num hk.qt
  obtain ⟨e4, h4⟩ := h3.num hk.qv
  obtain ⟨e5, h5⟩ := h4.num hk.qp
  obtain ⟨e6, h6⟩ := h5.num hk.mo
  obtain ⟨e7, h7⟩ := h6.num hk.at_
  obtain ⟨e8, h8⟩ := h7.num hk.mt
  obtain ⟨e9, h9⟩ := h8.num hk.len
  obtain ⟨e10, h10⟩ := h9.text hn
  obtain ⟨e11, h11⟩ := h10.text hu
  obtain ⟨e12, h12⟩ := h11.text hg
  obtain ⟨e13, h13⟩ := (show AtSplit _ (txt s.m ++ []) from by rw [List.append_nil]; exact h12).text hm
  have hend := h13.size
  simp only [List.length_nil, Nat.add_zero] at hend
  constructor
  · simp only [St.read, e1, e2, e3, e4, e5, e6, e7, e8, e9, Rd.tq, e10, e11, e12, e13]
  · simp only [St.nq, e1, e2, e3, e4, e5, e6, e7, e8, e9, Rd.tq, e10, e11, e12, e13]
    unfold Rd.end_
    rw [if_neg (by simp), if_neg (by show ¬ _ < _; simp only; omega)]
theorem encS_ok {s : St} (h : (encS s).2 = 0) : ¬ 65535 < s.tot ∧ encB s = bs (leBytes 2 s.tot ++ s.body) := by
  unfold encB
  unfold encS at *
  split at h
  · exact absurd h (by decide)
  · rename_i g
    rw [if_neg g]
    exact ⟨g, rfl⟩
theorem next_enc (s : St) (hk : s.Ok) (h : (encS s).2 = 0) (b : ByteArray) : nextS (encB s ++ b) = (s, (encB s).size, 0) := by
  obtain ⟨ht, he⟩ := encS_ok h
  have hsz := (encB_size h).2.2
  have htot : s.tot = 47 + s.n.size + s.u.size + s.g.size + s.m.size := rfl
  have h0 : AtSplit ⟨encB s ++ b, 0, 0⟩ (leBytes 2 s.tot ++ (s.body ++ b.data.toList)) := ⟨rfl, Nat.zero_le _, by
    show List.drop 0 (encB s ++ b).data.toList = _
    rw [List.drop_zero, he]; simp [bs]⟩
  obtain ⟨e1, h1⟩ := h0.num (by show s.tot < 65536; omega)
  obtain ⟨e2, h2⟩ := h1.bytes
  rw [St.body_length] at e2
  have hr := read_body s (bs s.body) (by simp [bs]) hk (by omega) (by omega) (by omega) (by omega)
  unfold nextS
  rw [e1]
  simp only
  rw [e2]
  simp only
  rw [if_neg (by simp), hr.2, if_neg (by simp), hr.1, hsz]
  first | done | simp
theorem dec_enc (s : St) (hk : s.Ok) (h : (encS s).2 = 0) : decS (encB s) = (s, 0) := by
  have := next_enc s hk h ByteArray.empty
  rw [ByteArray.append_empty] at this
  unfold decS
  rw [this]
  simp
theorem leBytes_leNat (l : List UInt8) : leBytes l.length (leNat l) = l := by
  induction l with
  | nil => rfl
  | cons c l ih =>
    simp only [leNat, List.length_cons, leBytes]
    have hc := c.toNat_lt
    have e1 : (c.toNat + 256 * leNat l) / 256 = leNat l := by omega
    rw [e1, ih]
    congr 1
    apply UInt8.toNat_inj.1
    rw [UInt8.toNat_ofNat']
    omega
theorem AtSplit.unbytes {q : Rd} {k : Nat} {rest : List UInt8} (h : AtSplit q rest) (hf : (q.bytes k).2.f = 0) : ∃ rest', rest = (q.bytes k).1.data.toList ++ rest' ∧ (q.bytes k).1.size = k ∧ AtSplit (q.bytes k).2 rest' := by
  obtain ⟨h1, h2, h3⟩ := Rd.bytes_adv hf
  have hs := h.size
  refine ⟨rest.drop k, ?_, ?_, ?_⟩
  · rw [Rd.bytes_in h1 h2]
    show rest = (q.s.extract q.at_ (q.at_ + k)).data.toList ++ _
    rw [extract_take, h.2.2, List.take_append_drop]
  · rw [Rd.bytes_in h1 h2]
    show (q.s.extract q.at_ (q.at_ + k)).size = k
    rw [ByteArray.size_extract]
    omega
  · rw [Rd.bytes_in h1 h2]
    refine ⟨rfl, h2, ?_⟩
    show q.s.data.toList.drop (q.at_ + k) = _
    rw [← List.drop_drop, h.2.2]
theorem AtSplit.unnum {q : Rd} {k : Nat} {rest : List UInt8} (h : AtSplit q rest) (hf : (q.num k).2.f = 0) : ∃ rest', rest = leBytes k (q.num k).1 ++ rest' ∧ AtSplit (q.num k).2 rest' := by
  obtain ⟨r, h1, h2, h3⟩ := h.unbytes hf
  refine ⟨r, ?_, h3⟩
  rw [h1]
  congr 1
  show _ = leBytes k (leNat (q.bytes k).1.data.toList)
  have := leBytes_leNat (q.bytes k).1.data.toList
  rw [bsize, h2] at this
  exact this.symm
theorem AtSplit.untext {q : Rd} {rest : List UInt8} (h : AtSplit q rest) (hf : q.text.2.f = 0) : ∃ rest', rest = txt q.text.1 ++ rest' ∧ q.text.1.size < 65536 ∧ AtSplit q.text.2 rest' := by
  have hf' := hf
  unfold Rd.text at hf'
  simp only [Rd.keep_f] at hf'
  have hb := Rd.bytes_adv hf'
  obtain ⟨r1, h1, h2⟩ := h.unnum hb.1
  obtain ⟨r2, h3, h4, h5⟩ := h2.unbytes hf'
  have hlt := Rd.num_lt q 2
  have hkeep : ((q.num 2).2.bytes (q.num 2).1).2.keep q.at_ = ((q.num 2).2.bytes (q.num 2).1).2 := if_neg (by omega)
  have ht : q.text = (((q.num 2).2.bytes (q.num 2).1).1, ((q.num 2).2.bytes (q.num 2).1).2) := by unfold Rd.text; rw [hkeep]
  rw [ht]
  refine ⟨r2, ?_, by rw [h4]; exact hlt, h5⟩
  rw [h1, h3]
  unfold txt
  rw [h4, List.append_assoc]
theorem AtSplit.untexts {X : Rd} {rest : List UInt8} (h : AtSplit X rest) (hf : (X.tq 4).f = 0) : ∃ r, rest = txt (X.tq 0).text.1 ++ (txt (X.tq 1).text.1 ++ (txt (X.tq 2).text.1 ++ (txt (X.tq 3).text.1 ++ r))) ∧ (X.tq 0).text.1.size < 65536 ∧ (X.tq 1).text.1.size < 65536 ∧ (X.tq 2).text.1.size < 65536 ∧ (X.tq 3).text.1.size < 65536 ∧ AtSplit (X.tq 4) r := by
  have f13 : (X.tq 3).text.2.f = 0 := hf
  have f12 : (X.tq 2).text.2.f = 0 := (Rd.text_adv f13).1
  have f11 : (X.tq 1).text.2.f = 0 := (Rd.text_adv f12).1
  have f10 : (X.tq 0).text.2.f = 0 := (Rd.text_adv f11).1
  obtain ⟨r10, e10, z10, h10⟩ := AtSplit.untext (q := X.tq 0) h f10
  obtain ⟨r11, e11, z11, h11⟩ := AtSplit.untext (q := X.tq 1) h10 f11
  obtain ⟨r12, e12, z12, h12⟩ := AtSplit.untext (q := X.tq 2) h11 f12
  obtain ⟨r13, e13, z13, h13⟩ := AtSplit.untext (q := X.tq 3) h12 f13
  exact ⟨r13, by rw [e10, e11, e12, e13], z10, z11, z12, z13, h13⟩
theorem AtSplit.unnums {q : Rd} {rest : List UInt8} (h0 : AtSplit q rest) (hf : (St.nq q).f = 0) : ∃ r, rest = (St.read q).nums ++ r ∧ AtSplit (St.nq q) r := by
  unfold St.nq at hf ⊢
  have f8 := (Rd.num_adv hf).1
  have f7 := (Rd.num_adv f8).1
  have f6 := (Rd.num_adv f7).1
  have f5 := (Rd.num_adv f6).1
  have f4 := (Rd.num_adv f5).1
  have f3 := (Rd.num_adv f4).1
  have f2 := (Rd.num_adv f3).1
  have f1 := (Rd.num_adv f2).1
  obtain ⟨r1, e1, h1⟩ := h0.unnum f1
  obtain ⟨r2, e2, h2⟩ := h1.unnum f2
  obtain ⟨r3, e3, h3⟩ := h2.unnum f3
  obtain ⟨r4, e4, h4⟩ := h3.unnum f4
  obtain ⟨r5, e5, h5⟩ := h4.unnum f5
  obtain ⟨r6, e6, h6⟩ := h5.unnum f6
  obtain ⟨r7, e7, h7⟩ := h6.unnum f7
  obtain ⟨r8, e8, h8⟩ := h7.unnum f8
  obtain ⟨r9, e9, h9⟩ := h8.unnum hf
  refine ⟨r9, ?_, h9⟩
  rw [e1, e2, e3, e4, e5, e6, e7, e8, e9]
  simp only [St.read, St.nums, qidL, List.append_assoc]
theorem unread (B : ByteArray) (h : ((St.nq ⟨B, 0, 0⟩).tq 4).end_ = 0) : B.data.toList = (St.read ⟨B, 0, 0⟩).body ∧ (St.read ⟨B, 0, 0⟩).n.size < 65536 ∧ (St.read ⟨B, 0, 0⟩).u.size < 65536 ∧ (St.read ⟨B, 0, 0⟩).g.size < 65536 ∧ (St.read ⟨B, 0, 0⟩).m.size < 65536 := by
  have hR : (St.read ⟨B, 0, 0⟩).n = ((St.nq ⟨B, 0, 0⟩).tq 0).text.1 ∧ (St.read ⟨B, 0, 0⟩).u = ((St.nq ⟨B, 0, 0⟩).tq 1).text.1 ∧ (St.read ⟨B, 0, 0⟩).g = ((St.nq ⟨B, 0, 0⟩).tq 2).text.1 ∧ (St.read ⟨B, 0, 0⟩).m = ((St.nq ⟨B, 0, 0⟩).tq 3).text.1 := ⟨rfl, rfl, rfl, rfl⟩
  have h0 : AtSplit ⟨B, 0, 0⟩ B.data.toList := ⟨rfl, Nat.zero_le _, List.drop_zero ..⟩
  have hnum := h0.unnums
  generalize St.read ⟨B, 0, 0⟩ = s at *
  generalize St.nq ⟨B, 0, 0⟩ = X at *
  have hf : (X.tq 4).f = 0 := by
    unfold Rd.end_ at h
    split at h
    · rename_i g; exact absurd h g
    · rename_i g; omega
  have hat : ¬ (X.tq 4).at_ < (X.tq 4).s.size := by
    unfold Rd.end_ at h
    rw [if_neg (by omega)] at h
    split at h
    · omega
    · assumption
  obtain ⟨r, e1, h1⟩ := hnum (Rd.tq_adv hf).1
  obtain ⟨r2, e2, z1, z2, z3, z4, h2⟩ := h1.untexts hf
  obtain ⟨g1, g2, g3, g4⟩ := hR
  rw [← g1] at z1 e2
  rw [← g2] at z2 e2
  rw [← g3] at z3 e2
  rw [← g4] at z4 e2
  have hr : r2 = [] := by
    have := h2.size
    exact List.eq_nil_of_length_eq_zero (by omega)
  refine ⟨?_, z1, z2, z3, z4⟩
  rw [e1, e2, hr]
  simp only [St.body, List.append_assoc, List.append_nil]
theorem body_len {b : ByteArray} (g1 : 2 ≤ b.size) : bodyLen b < 65536 := by
  have := leNat_lt (b.extract 0 2).data.toList
  rw [bsize, show (b.extract 0 2).size = 2 from by rw [ByteArray.size_extract]; omega] at this
  exact this
theorem enc_body {b : ByteArray} {s : St} (g1 : 2 ≤ b.size) (h2 : 2 + bodyLen b = b.size) (hb : (b.extract 2 (2 + bodyLen b)).data.toList = s.body) : encS s = (b, 0) := by
  have hlen := body_len g1
  have hbs : (b.extract 2 (2 + bodyLen b)).size = bodyLen b := by rw [ByteArray.size_extract]; omega
  have htot : s.tot = bodyLen b := by rw [← St.body_length, ← hb, bsize, hbs]
  have e1 : leBytes 2 (bodyLen b) = b.data.toList.take 2 := by
    have h3 := leBytes_leNat (b.extract 0 2).data.toList
    rw [bsize, show (b.extract 0 2).size = 2 from by rw [ByteArray.size_extract]; omega] at h3
    rw [show leBytes 2 (bodyLen b) = _ from h3]
    have := extract_take b 0 2
    rw [List.drop_zero] at this
    exact this
  have e2 : (b.extract 2 (2 + bodyLen b)).data.toList = b.data.toList.drop 2 := by
    rw [extract_take, List.take_of_length_le]
    rw [List.length_drop, bsize]
    omega
  have e3 : leBytes 2 s.tot ++ s.body = b.data.toList := by rw [htot, e1, ← hb, e2, List.take_append_drop]
  have e4 : bs (leBytes 2 s.tot ++ s.body) = b := by rw [e3, bs_of]
  unfold encS
  rw [if_neg (by omega), e4]
theorem next_full {b : ByteArray} (h1 : (nextS b).2.2 = 0) : 2 ≤ b.size ∧ 2 + bodyLen b ≤ b.size ∧ ((St.nq ⟨b.extract 2 (2 + bodyLen b), 0, 0⟩).tq 4).end_ = 0 ∧ nextS b = (St.read ⟨b.extract 2 (2 + bodyLen b), 0, 0⟩, 2 + bodyLen b, 0) := by
  have g1 : 2 ≤ b.size := by
    rcases Nat.lt_or_ge b.size 2 with g | g
    · rw [nextS_short1 g] at h1; exact absurd h1 (show (50 : Int) ≠ 0 by decide)
    · exact g
  have g2 : 2 + bodyLen b ≤ b.size := by
    rcases Nat.lt_or_ge b.size (2 + bodyLen b) with g | g
    · rw [nextS_short2 g1 g] at h1; exact absurd h1 (show (50 : Int) ≠ 0 by decide)
    · exact g
  have hb := nextS_body g1 g2
  by_cases he : ((St.nq ⟨b.extract 2 (2 + bodyLen b), 0, 0⟩).tq 4).end_ ≠ 0
  · rw [if_pos he] at hb
    rw [hb] at h1
    exact absurd h1 (show (51 : Int) ≠ 0 by decide)
  · rw [if_neg he] at hb
    exact ⟨g1, g2, Decidable.not_not.1 he, hb⟩
theorem enc_dec (b : ByteArray) (h : (decS b).2 = 0) : encS (decS b).1 = (b, 0) ∧ (decS b).1.n.size ≤ 65535 ∧ (decS b).1.u.size ≤ 65535 ∧ (decS b).1.g.size ≤ 65535 ∧ (decS b).1.m.size ≤ 65535 := by
  have hd : decS b = if (nextS b).2.2 ≠ 0 then (St.zero, (nextS b).2.2) else if (nextS b).2.1 ≠ b.size then (St.zero, 51) else ((nextS b).1, 0) := rfl
  by_cases h1 : (nextS b).2.2 ≠ 0
  · rw [if_pos h1] at hd
    rw [hd] at h
    exact absurd h h1
  rw [if_neg h1] at hd
  by_cases h2 : (nextS b).2.1 ≠ b.size
  · rw [if_pos h2] at hd
    rw [hd] at h
    exact absurd h (show (51 : Int) ≠ 0 by decide)
  rw [if_neg h2] at hd
  obtain ⟨g1, g2, he, hn⟩ := next_full (Decidable.not_not.1 h1)
  obtain ⟨hb, s1, s2, s3, s4⟩ := unread (b.extract 2 (2 + bodyLen b)) he
  have h2' := Decidable.not_not.1 h2
  rw [hn] at hd h2'
  rw [hd]
  have h2'' : 2 + bodyLen b = b.size := h2'
  exact ⟨enc_body g1 h2'' hb, Nat.le_of_lt_succ s1, Nat.le_of_lt_succ s2, Nat.le_of_lt_succ s3, Nat.le_of_lt_succ s4⟩
end Go.Proofs.YtklpopmjpgdjnaaGreatDoor
namespace Go.Proofs.YtklpopmjpgdjnaaGreatDoor

def qdB (q : Qd) : List UInt8 := qidL q.t q.v q.p
/-- the bytes of a field -/
def fldB (m : Msg) : Fld → List UInt8
  | .msize => leBytes 4 m.msize | .version => txt m.version | .fid => leBytes 4 m.fid | .afid => leBytes 4 m.afid | .newfid => leBytes 4 m.newfid
  | .oldtag => leBytes 2 m.oldtag | .uname => txt m.uname | .aname => txt m.aname | .ename => txt m.ename | .name => txt m.name
  | .names => leBytes 2 m.names.length ++ m.names.flatMap txt | .qid => qdB m.qid | .qids => leBytes 2 m.qids.length ++ m.qids.flatMap qdB
  | .mode => leBytes 1 m.mode | .perm => leBytes 4 m.perm | .iounit => leBytes 4 m.iounit
  | .offset => leBytes 8 m.offset | .count => leBytes 4 m.count | .data => leBytes 4 m.data.size ++ m.data.data.toList
  | .stat => leBytes 2 (encS m.stat).1.size ++ (encS m.stat).1.data.toList
/-- is a field not too long? -/
def fldOk (m : Msg) : Fld → Prop
  | .version => m.version.size ≤ 65535 | .uname => m.uname.size ≤ 65535 | .aname => m.aname.size ≤ 65535 | .ename => m.ename.size ≤ 65535 | .name => m.name.size ≤ 65535
  | .names => m.names.length ≤ 16 ∧ ∀ s ∈ m.names, s.size ≤ 65535
  | .qids => m.qids.length ≤ 16
  | .stat => (encS m.stat).2 = 0 ∧ (encS m.stat).1.size ≤ 65535
  | _ => True
/-- what a step of a pen does: it writes B, unless it is too long -/
structure Good (F : Wr → Wr) (B : List UInt8) (p : Prop) : Prop where
  ok : ∀ (o : Wr), o.1.length ≤ 8192 → ((F o).2 = false ↔ o.2 = false ∧ p ∧ o.1.length + B.length ≤ 8192)
  out : ∀ (o : Wr), o.1.length ≤ 8192 → (F o).2 = false → (F o).1 = o.1 ++ B
  le : ∀ (o : Wr), o.1.length ≤ 8192 → (F o).1.length ≤ 8192
theorem Good.iff {F : Wr → Wr} {B : List UInt8} {p q : Prop} (h : Good F B p) (hpq : p ↔ q) : Good F B q := (propext hpq : p = q) ▸ h
theorem Good.id_ : Good (fun o => o) [] True := ⟨fun _ h => ⟨fun e => ⟨e, trivial, h⟩, fun e => e.1⟩, fun _ _ _ => (List.append_nil _).symm, fun _ h => h⟩
theorem Good.then_ {F G : Wr → Wr} {B C : List UInt8} {p q : Prop} (h1 : Good F B p) (h2 : Good G C q) : Good (fun o => G (F o)) (B ++ C) (p ∧ q) := by
  refine ⟨fun o h => ?_, fun o h hg => ?_, fun o h => h2.le _ (h1.le _ h)⟩
  · have hF := h1.le o h
    rw [h2.ok _ hF, h1.ok o h, List.length_append]
    constructor
    · rintro ⟨⟨a, b, c⟩, d, e⟩
      have := h1.out o h ((h1.ok o h).2 ⟨a, b, c⟩)
      rw [this, List.length_append] at e
      exact ⟨a, ⟨b, d⟩, by omega⟩
    · rintro ⟨a, ⟨b, d⟩, e⟩
      have hf : o.2 = false ∧ p ∧ o.1.length + B.length ≤ 8192 := ⟨a, b, by omega⟩
      have := h1.out o h ((h1.ok o h).2 hf)
      exact ⟨hf, d, by rw [this, List.length_append]; omega⟩
  · have hF := h1.le o h
    have hl := ((h2.ok _ hF).1 hg).1
    rw [h2.out _ hF hg, h1.out o h hl, List.append_assoc]
theorem Good.wrB_ (s : List UInt8) : Good (fun o => wrB o s) s True := by
  refine ⟨fun o h => ?_, fun o _ hf => ?_, fun o h => ?_⟩
  · show (wrB o s).2 = false ↔ _
    unfold wrB
    split
    · exact ⟨fun e => (by cases e), fun e => (by omega)⟩
    · exact ⟨fun e => ⟨e, trivial, by omega⟩, fun e => e.1⟩
  · have hf' : (wrB o s).2 = false := hf
    show (wrB o s).1 = _
    unfold wrB at hf' ⊢
    split
    · rename_i g; rw [if_pos g] at hf'; cases hf'
    · rfl
  · show (wrB o s).1.length ≤ _
    unfold wrB
    split
    · exact h
    · rw [List.length_append]; omega
theorem Good.text (t : ByteArray) : Good (fun o => wrText o t) (txt t) (t.size ≤ 65535) := by
  by_cases ht : 65535 < t.size
  · have e : ∀ o : Wr, wrText o t = wrB (o.1, true) [] := fun o => if_pos ht
    have hn : ¬ t.size ≤ 65535 := by omega
    refine ⟨fun o h => ?_, fun o h hf => ?_, fun o h => ?_⟩
    · show (wrText o t).2 = false ↔ _
      rw [e]
      have := (Good.wrB_ []).ok (o.1, true) h
      rw [show (wrB (o.1, true) []).2 = false ↔ _ from this]
      exact ⟨fun x => (by cases x.1), fun x => absurd x.2.1 hn⟩
    · have hf' : (wrText o t).2 = false := hf
      rw [e] at hf'
      exact (by cases (((Good.wrB_ []).ok (o.1, true) h).1 hf').1)
    · show (wrText o t).1.length ≤ _
      rw [e]
      exact (Good.wrB_ []).le (o.1, true) h
  · have e : (fun o : Wr => wrText o t) = fun o => wrB o (txt t) := funext fun o => if_neg ht
    rw [e]
    exact (Good.wrB_ (txt t)).iff ⟨fun _ => by omega, fun _ => trivial⟩
theorem Good.texts (l : List ByteArray) : Good (fun o => wrTexts o l) (l.flatMap txt) (∀ s ∈ l, s.size ≤ 65535) := by
  induction l with
  | nil => exact Good.id_.iff ⟨fun _ s h => (by cases h), fun _ => trivial⟩
  | cons a l ih =>
    rw [List.flatMap_cons]
    exact ((Good.text a).then_ ih).iff (by rw [List.forall_mem_cons])
theorem Good.qid (q : Qd) : Good (fun o => wrQid o q) (qdB q) True :=
  (((Good.wrB_ (leBytes 1 q.t)).then_ (Good.wrB_ (leBytes 4 q.v))).then_ (Good.wrB_ (leBytes 8 q.p))).iff ⟨fun _ => trivial, fun _ => ⟨⟨trivial, trivial⟩, trivial⟩⟩
theorem Good.qids (l : List Qd) : Good (fun o => wrQids o l) (l.flatMap qdB) True := by
  induction l with
  | nil => exact Good.id_
  | cons a l ih =>
    rw [List.flatMap_cons]
    exact ((Good.qid a).then_ ih).iff ⟨fun _ => trivial, fun _ => ⟨trivial, trivial⟩⟩
/-- a step that is flagged whatever came -/
theorem Good.never {F : Wr → Wr} {B : List UInt8} {p : Prop} (hp : ¬ p) (h : ∀ o, (F o).2 = true) (hl : ∀ (o : Wr), o.1.length ≤ 8192 → (F o).1.length ≤ 8192) : Good F B p :=
  ⟨fun o _ => ⟨fun e => (by rw [h o] at e; cases e), fun e => absurd e.2.1 hp⟩, fun o _ e => (by rw [h o] at e; cases e), hl⟩
theorem Good.flag {F : Wr → Wr} {B : List UInt8} {p : Prop} (b : Bool) (h : Good F B p) : Good (fun o => ((F o).1, (F o).2 || b)) B (p ∧ b = false) := by
  cases b
  · have e : (fun o : Wr => ((F o).1, (F o).2 || false)) = F := funext fun o => by rw [Bool.or_false]
    rw [e]
    exact h.iff ⟨fun x => ⟨x, rfl⟩, fun x => x.1⟩
  · exact Good.never (fun x => (by cases x.2)) (fun o => Bool.or_true _) h.le
theorem Good.names (l : List ByteArray) : Good (fun o => wrNames o l) (leBytes 2 l.length ++ l.flatMap txt) (l.length ≤ 16 ∧ ∀ s ∈ l, s.size ≤ 65535) := by
  have hb := ((Good.wrB_ (leBytes 2 (min l.length 17))).then_ (Good.texts (l.take 17))).flag (decide (16 < l.length))
  by_cases h : 16 < l.length
  · exact Good.never (fun x => by omega) (fun o => by show ((_ : Bool) || decide (16 < l.length)) = true; rw [decide_eq_true h, Bool.or_true]) hb.le
  · rw [show min l.length 17 = l.length by omega, List.take_of_length_le (by omega)] at hb
    have e : (fun o => wrNames o l) = fun o => ((wrTexts (wrB o (leBytes 2 l.length)) l).1, (wrTexts (wrB o (leBytes 2 l.length)) l).2 || decide (16 < l.length)) := funext fun o => by
      unfold wrNames
      rw [show min l.length 17 = l.length by omega, List.take_of_length_le (by omega)]
    rw [e]
    exact hb.iff ⟨fun x => ⟨by omega, x.1.2⟩, fun x => ⟨⟨trivial, x.2⟩, decide_eq_false h⟩⟩
theorem Good.qidl (l : List Qd) : Good (fun o => wrQidl o l) (leBytes 2 l.length ++ l.flatMap qdB) (l.length ≤ 16) := by
  have hb := ((Good.wrB_ (leBytes 2 (min l.length 17))).then_ (Good.qids (l.take 17))).flag (decide (16 < l.length))
  by_cases h : 16 < l.length
  · exact Good.never (fun x => by omega) (fun o => by show ((_ : Bool) || decide (16 < l.length)) = true; rw [decide_eq_true h, Bool.or_true]) hb.le
  · rw [show min l.length 17 = l.length by omega, List.take_of_length_le (by omega)] at hb
    have e : (fun o => wrQidl o l) = fun o => ((wrQids (wrB o (leBytes 2 l.length)) l).1, (wrQids (wrB o (leBytes 2 l.length)) l).2 || decide (16 < l.length)) := funext fun o => by
      unfold wrQidl
      rw [show min l.length 17 = l.length by omega, List.take_of_length_le (by omega)]
    rw [e]
    exact hb.iff ⟨fun _ => by omega, fun _ => ⟨⟨trivial, trivial⟩, decide_eq_false h⟩⟩
theorem Good.stat (s : St) : Good (fun o => wrStat o s) (leBytes 2 (encS s).1.size ++ (encS s).1.data.toList) ((encS s).2 = 0 ∧ (encS s).1.size ≤ 65535) := by
  by_cases h : (encS s).2 = 0 ∧ (encS s).1.size ≤ 65535
  · have e : (fun o : Wr => wrStat o s) = fun o => wrB o (leBytes 2 (encS s).1.size ++ (encS s).1.data.toList) := funext fun o => by
      unfold wrStat
      rw [decide_eq_false (fun x => x h.1), decide_eq_false (by omega), Bool.or_false, Bool.or_false]
    rw [e]
    exact (Good.wrB_ _).iff ⟨fun _ => h, fun _ => trivial⟩
  · have hb : (decide ((encS s).2 ≠ 0) || decide (65535 < (encS s).1.size)) = true := by
      rw [Bool.or_eq_true, decide_eq_true_eq, decide_eq_true_eq]
      by_cases h2 : (encS s).2 = 0
      · exact .inr (by have := fun x => h ⟨h2, x⟩; omega)
      · exact .inl h2
    have e : ∀ o : Wr, wrStat o s = wrB (o.1, true) (leBytes 2 (encS s).1.size ++ (encS s).1.data.toList) := fun o => by
      unfold wrStat
      rw [Bool.or_assoc, hb, Bool.or_true]
    refine Good.never h (fun o => ?_) (fun o ho => ?_)
    · rw [e]
      unfold wrB
      split <;> rfl
    · rw [e]
      exact (Good.wrB_ _).le (o.1, true) ho
theorem Good.fld (m : Msg) (f : Fld) : Good (fun o => Fld.wr m o f) (fldB m f) (fldOk m f) := by
  cases f
  case version => exact Good.text _
  case uname => exact Good.text _
  case aname => exact Good.text _
  case ename => exact Good.text _
  case name => exact Good.text _
  case names => exact Good.names _
  case qid => exact Good.qid _
  case qids => exact Good.qidl _
  case stat => exact Good.stat _
  all_goals exact Good.wrB_ _
theorem Good.flds (m : Msg) (l : List Fld) : Good (fun o => l.foldl (Fld.wr m) o) (l.flatMap (fldB m)) (∀ f ∈ l, fldOk m f) := by
  induction l with
  | nil => exact Good.id_.iff ⟨fun _ s h => (by cases h), fun _ => trivial⟩
  | cons a l ih =>
    rw [List.flatMap_cons]
    exact ((Good.fld m a).then_ ih).iff (by rw [List.forall_mem_cons])
/-- what a row of fields is written as -/
theorem wr_all (m : Msg) (l : List Fld) : ((l.foldl (Fld.wr m) ([], false)).2 = true ∨ 8192 < (l.foldl (Fld.wr m) ([], false)).1.length + 7) ↔ ¬ ((∀ f ∈ l, fldOk m f) ∧ (l.flatMap (fldB m)).length + 7 ≤ 8192) := by
  have h := Good.flds m l
  have h1 := h.ok ([], false) (Nat.zero_le _)
  have h2 := h.out ([], false) (Nat.zero_le _)
  have h1 : (l.foldl (Fld.wr m) ([], false)).2 = false ↔ false = false ∧ (∀ f ∈ l, fldOk m f) ∧ 0 + (l.flatMap (fldB m)).length ≤ 8192 := h1
  have h2 : (l.foldl (Fld.wr m) ([], false)).2 = false → (l.foldl (Fld.wr m) ([], false)).1 = [] ++ l.flatMap (fldB m) := h2
  generalize l.foldl (Fld.wr m) ([], false) = O at *
  obtain ⟨o, lg⟩ := O
  simp only at h1 h2 ⊢
  constructor
  · rintro (h | h) ⟨a, b⟩
    · have := h1.2 ⟨trivial, a, by omega⟩
      rw [h] at this
      cases this
    · have := h2 (h1.2 ⟨trivial, a, by omega⟩)
      rw [this, List.nil_append] at h
      omega
  · intro h
    cases lg
    · right
      obtain ⟨_, a, b⟩ := h1.1 rfl
      rw [h2 rfl, List.nil_append]
      rcases Nat.lt_or_ge 8192 ((l.flatMap (fldB m)).length + 7) with x | x
      · exact x
      · exact absurd ⟨a, x⟩ h
    · exact .inl rfl
theorem wr_out (m : Msg) (l : List Fld) (h : (∀ f ∈ l, fldOk m f) ∧ (l.flatMap (fldB m)).length + 7 ≤ 8192) : l.foldl (Fld.wr m) ([], false) = (l.flatMap (fldB m), false) := by
  have hg := Good.flds m l
  have h1 := (hg.ok ([], false) (Nat.zero_le _)).2 ⟨rfl, h.1, (show 0 + (l.flatMap (fldB m)).length ≤ 8192 by omega)⟩
  have h2 := hg.out ([], false) (Nat.zero_le _) h1
  have h1 : (l.foldl (Fld.wr m) ([], false)).2 = false := h1
  have h2 : (l.foldl (Fld.wr m) ([], false)).1 = [] ++ l.flatMap (fldB m) := h2
  rw [List.nil_append] at h2
  exact Prod.ext h2 h1
end Go.Proofs.YtklpopmjpgdjnaaGreatDoor
namespace Go.Proofs.YtklpopmjpgdjnaaGreatDoor

/-- a field set as another message has it -/
def setF (m x : Msg) : Fld → Msg
  | .msize => { x with msize := m.msize } | .version => { x with version := m.version } | .fid => { x with fid := m.fid } | .afid => { x with afid := m.afid } | .newfid => { x with newfid := m.newfid }
  | .oldtag => { x with oldtag := m.oldtag } | .uname => { x with uname := m.uname } | .aname => { x with aname := m.aname } | .ename => { x with ename := m.ename } | .name => { x with name := m.name }
  | .names => { x with names := m.names } | .qid => { x with qid := m.qid } | .qids => { x with qids := m.qids } | .mode => { x with mode := m.mode } | .perm => { x with perm := m.perm } | .iounit => { x with iounit := m.iounit }
  | .offset => { x with offset := m.offset } | .count => { x with count := m.count } | .data => { x with data := m.data } | .stat => { x with stat := m.stat }
theorem rdTexts_at (l : List ByteArray) : ∀ (q : Rd) (acc : List ByteArray) (rest : List UInt8), (∀ s ∈ l, s.size ≤ 65535) → AtSplit q (l.flatMap txt ++ rest) → ∃ q', rdTexts l.length q acc = (acc ++ l, q') ∧ AtSplit q' rest ∧ q'.s = q.s := by
  induction l with
  | nil => exact fun q acc rest _ h => ⟨q, by rw [List.append_nil]; rfl, h, rfl⟩
  | cons a l ih =>
    intro q acc rest hl h
    rw [List.flatMap_cons, List.append_assoc] at h
    obtain ⟨e, h2⟩ := h.text (by have := hl a (List.mem_cons_self ..); omega)
    obtain ⟨q', e2, h3, h4⟩ := ih _ (acc ++ [a]) rest (fun s hs => hl s (List.mem_cons_of_mem _ hs)) h2
    refine ⟨q', ?_, h3, h4⟩
    show (if q.f ≠ 0 then (acc, q) else rdTexts l.length q.text.2 (acc ++ [q.text.1])) = _
    rw [if_neg (by rw [h.1]; simp), e]
    simp only
    rw [e2, List.append_assoc]
    rfl
theorem rdQid_at (a : Qd) (ha : a.Ok) (q : Rd) (rest : List UInt8) (h : AtSplit q (qdB a ++ rest)) : ∃ q', rdQid q = (a, q') ∧ AtSplit q' rest ∧ q'.s = q.s := by
  unfold qdB qidL at h
  simp only [List.append_assoc] at h
  obtain ⟨e1, h1⟩ := h.num ha.t
  obtain ⟨e2, h2⟩ := h1.num ha.v
  obtain ⟨e3, h3⟩ := h2.num ha.p
  refine ⟨_, ?_, h3, rfl⟩
  unfold rdQid
  simp only [e1, e2, e3]
theorem rdQids_at (l : List Qd) : ∀ (q : Rd) (acc : List Qd) (rest : List UInt8), (∀ s ∈ l, s.Ok) → AtSplit q (l.flatMap qdB ++ rest) → ∃ q', rdQids l.length q acc = (acc ++ l, q') ∧ AtSplit q' rest ∧ q'.s = q.s := by
  induction l with
  | nil => exact fun q acc rest _ h => ⟨q, by rw [List.append_nil]; rfl, h, rfl⟩
  | cons a l ih =>
    intro q acc rest hl h
    rw [List.flatMap_cons, List.append_assoc] at h
    obtain ⟨q1, e, h2, hs1⟩ := rdQid_at a (hl a (List.mem_cons_self ..)) q _ h
    obtain ⟨q', e2, h3, h4⟩ := ih _ (acc ++ [a]) rest (fun s hs => hl s (List.mem_cons_of_mem _ hs)) h2
    refine ⟨q', ?_, h3, h4.trans hs1⟩
    show (if q.f ≠ 0 then (acc, q) else rdQids l.length (rdQid q).2 (acc ++ [(rdQid q).1])) = _
    rw [if_neg (by rw [h.1]; simp), e]
    simp only
    rw [e2, List.append_assoc]
    rfl
theorem AtSplit.bytesB {q : Rd} {b : ByteArray} {rest : List UInt8} (h : AtSplit q (b.data.toList ++ rest)) : q.bytes b.size = (b, ⟨q.s, q.at_ + b.size, 0⟩) ∧ AtSplit ⟨q.s, q.at_ + b.size, 0⟩ rest := by
  have := h.bytes
  rw [bsize, bs_of] at this
  exact this
theorem rd_fld (m : Msg) (hk : m.Ok) (hd : m.data.size < 4294967296) (f : Fld) (hf : fldOk m f) (x : Msg) (q : Rd) (rest : List UInt8) (h : AtSplit q (fldB m f ++ rest)) :
    ∃ q', Fld.rd ⟨x, q, false, false⟩ f = ⟨setF m x f, q', false, false⟩ ∧ AtSplit q' rest ∧ q'.s = q.s := by
  cases f
  case msize => obtain ⟨e, h1⟩ := h.num hk.msize; exact ⟨_, by show Re.mk _ _ _ _ = _; simp only [e]; rfl, h1, rfl⟩
  case fid => obtain ⟨e, h1⟩ := h.num hk.fid; exact ⟨_, by show Re.mk _ _ _ _ = _; simp only [e]; rfl, h1, rfl⟩
  case afid => obtain ⟨e, h1⟩ := h.num hk.afid; exact ⟨_, by show Re.mk _ _ _ _ = _; simp only [e]; rfl, h1, rfl⟩
  case newfid => obtain ⟨e, h1⟩ := h.num hk.newfid; exact ⟨_, by show Re.mk _ _ _ _ = _; simp only [e]; rfl, h1, rfl⟩
  case oldtag => obtain ⟨e, h1⟩ := h.num hk.oldtag; exact ⟨_, by show Re.mk _ _ _ _ = _; simp only [e]; rfl, h1, rfl⟩
  case mode => obtain ⟨e, h1⟩ := h.num hk.mode; exact ⟨_, by show Re.mk _ _ _ _ = _; simp only [e]; rfl, h1, rfl⟩
  case perm => obtain ⟨e, h1⟩ := h.num hk.perm; exact ⟨_, by show Re.mk _ _ _ _ = _; simp only [e]; rfl, h1, rfl⟩
  case iounit => obtain ⟨e, h1⟩ := h.num hk.iounit; exact ⟨_, by show Re.mk _ _ _ _ = _; simp only [e]; rfl, h1, rfl⟩
  case offset => obtain ⟨e, h1⟩ := h.num hk.offset; exact ⟨_, by show Re.mk _ _ _ _ = _; simp only [e]; rfl, h1, rfl⟩
  case count => obtain ⟨e, h1⟩ := h.num hk.count; exact ⟨_, by show Re.mk _ _ _ _ = _; simp only [e]; rfl, h1, rfl⟩
  case version => obtain ⟨e, h1⟩ := h.text (Nat.lt_succ_of_le hf); exact ⟨_, by show Re.mk _ _ _ _ = _; simp only [e]; rfl, h1, rfl⟩
  case uname => obtain ⟨e, h1⟩ := h.text (Nat.lt_succ_of_le hf); exact ⟨_, by show Re.mk _ _ _ _ = _; simp only [e]; rfl, h1, rfl⟩
  case aname => obtain ⟨e, h1⟩ := h.text (Nat.lt_succ_of_le hf); exact ⟨_, by show Re.mk _ _ _ _ = _; simp only [e]; rfl, h1, rfl⟩
  case ename => obtain ⟨e, h1⟩ := h.text (Nat.lt_succ_of_le hf); exact ⟨_, by show Re.mk _ _ _ _ = _; simp only [e]; rfl, h1, rfl⟩
  case name => obtain ⟨e, h1⟩ := h.text (Nat.lt_succ_of_le hf); exact ⟨_, by show Re.mk _ _ _ _ = _; simp only [e]; rfl, h1, rfl⟩
  case qid => obtain ⟨q', e, h1, h2⟩ := rdQid_at m.qid hk.qid q rest h; exact ⟨q', by show Re.mk _ _ _ _ = _; simp only [e]; rfl, h1, h2⟩
  case data =>
    have h' : AtSplit q (leBytes 4 m.data.size ++ m.data.data.toList ++ rest) := h
    rw [List.append_assoc] at h'
    obtain ⟨e, h1⟩ := h'.num hd
    obtain ⟨e2, h2⟩ := h1.bytesB
    refine ⟨_, ?_, h2, rfl⟩
    show Re.mk _ _ _ _ = _
    unfold rdData
    rw [e]
    simp only
    rw [e2]
    rfl
  case stat =>
    have h' : AtSplit q (leBytes 2 (encS m.stat).1.size ++ (encS m.stat).1.data.toList ++ rest) := h
    rw [List.append_assoc] at h'
    obtain ⟨e, h1⟩ := h'.num (Nat.lt_succ_of_le hf.2)
    obtain ⟨e2, h2⟩ := h1.bytesB
    refine ⟨_, ?_, h2, rfl⟩
    have hde : decS (encS m.stat).1 = (m.stat, 0) := dec_enc m.stat hk.stat hf.1
    show Re.mk _ _ _ _ = _
    unfold rdStatB
    rw [e]
    simp only
    rw [e2]
    simp only
    rw [hde]
    rfl
  case names =>
    have h' : AtSplit q (leBytes 2 m.names.length ++ m.names.flatMap txt ++ rest) := h
    rw [List.append_assoc] at h'
    have h16 : m.names.length ≤ 16 := hf.1
    obtain ⟨e, h1⟩ := h'.num (show m.names.length < 65536 by omega)
    obtain ⟨q', e2, h2, hs⟩ := rdTexts_at m.names _ [] rest hf.2 h1
    refine ⟨q', ?_, h2, hs⟩
    show Re.mk _ _ _ _ = _
    rw [e]
    simp only
    rw [e2, List.nil_append, show (false || decide (16 < m.names.length)) = false from by rw [decide_eq_false (by omega)]; rfl]
    rfl
  case qids =>
    have h' : AtSplit q (leBytes 2 m.qids.length ++ m.qids.flatMap qdB ++ rest) := h
    rw [List.append_assoc] at h'
    have h16 : m.qids.length ≤ 16 := hf
    obtain ⟨e, h1⟩ := h'.num (show m.qids.length < 65536 by omega)
    obtain ⟨q', e2, h2, hs⟩ := rdQids_at m.qids _ [] rest hk.qids h1
    refine ⟨q', ?_, h2, hs⟩
    show Re.mk _ _ _ _ = _
    rw [e]
    simp only
    rw [e2, List.nil_append, show (false || decide (16 < m.qids.length)) = false from by rw [decide_eq_false (by omega)]; rfl]
    rfl
theorem rd_flds (m : Msg) (hk : m.Ok) (hd : m.data.size < 4294967296) (l : List Fld) : ∀ (x : Msg) (q : Rd) (rest : List UInt8), (∀ f ∈ l, fldOk m f) → AtSplit q (l.flatMap (fldB m) ++ rest) →
    ∃ q', l.foldl Fld.rd ⟨x, q, false, false⟩ = ⟨l.foldl (setF m) x, q', false, false⟩ ∧ AtSplit q' rest ∧ q'.s = q.s := by
  induction l with
  | nil => exact fun x q rest _ h => ⟨q, rfl, h, rfl⟩
  | cons f l ih =>
    intro x q rest hl h
    rw [List.flatMap_cons, List.append_assoc] at h
    obtain ⟨q1, e1, h1, s1⟩ := rd_fld m hk hd f (hl f (List.mem_cons_self ..)) x q _ h
    obtain ⟨q2, e2, h2, s2⟩ := ih (setF m x f) q1 rest (fun g hg => hl g (List.mem_cons_of_mem _ hg)) h1
    exact ⟨q2, by rw [List.foldl_cons, e1, e2]; rfl, h2, s2.trans s1⟩
end Go.Proofs.YtklpopmjpgdjnaaGreatDoor
namespace Go.Proofs.YtklpopmjpgdjnaaGreatDoor

theorem rdTexts_adv {k : Nat} {q : Rd} {acc : List ByteArray} (h : (rdTexts k q acc).2.f = 0) : q.f = 0 := by
  cases k with
  | zero => exact h
  | succ k =>
    have h' : (if q.f ≠ 0 then (acc, q) else rdTexts k q.text.2 (acc ++ [q.text.1])).2.f = 0 := h
    by_cases hq : q.f ≠ 0
    · rw [if_pos hq] at h'; exact h'
    · exact Decidable.not_not.1 hq
theorem rdQids_adv {k : Nat} {q : Rd} {acc : List Qd} (h : (rdQids k q acc).2.f = 0) : q.f = 0 := by
  cases k with
  | zero => exact h
  | succ k =>
    have h' : (if q.f ≠ 0 then (acc, q) else rdQids k (rdQid q).2 (acc ++ [(rdQid q).1])).2.f = 0 := h
    by_cases hq : q.f ≠ 0
    · rw [if_pos hq] at h'; exact h'
    · exact Decidable.not_not.1 hq
theorem rdTexts_un (k : Nat) : ∀ (q : Rd) (acc : List ByteArray) (rest : List UInt8), AtSplit q rest → (rdTexts k q acc).2.f = 0 →
    ∃ l rest', (rdTexts k q acc).1 = acc ++ l ∧ l.length = k ∧ rest = l.flatMap txt ++ rest' ∧ (∀ s ∈ l, s.size ≤ 65535) ∧ AtSplit (rdTexts k q acc).2 rest' := by
  induction k with
  | zero => exact fun q acc rest h _ => ⟨[], rest, (List.append_nil _).symm, rfl, rfl, fun s hs => (by cases hs), h⟩
  | succ k ih =>
    intro q acc rest h hf
    have e : rdTexts (k + 1) q acc = rdTexts k q.text.2 (acc ++ [q.text.1]) := if_neg (by rw [h.1]; simp)
    rw [e] at hf ⊢
    obtain ⟨r1, e1, h1, h2⟩ := h.untext (rdTexts_adv hf)
    obtain ⟨l, r2, e2, h3, h4, h5, h6⟩ := ih _ _ r1 h2 hf
    refine ⟨q.text.1 :: l, r2, by rw [e2, List.append_assoc]; rfl, by rw [List.length_cons, h3], by rw [e1, h4, List.flatMap_cons, List.append_assoc], ?_, h6⟩
    intro s hs
    rcases List.mem_cons.1 hs with rfl | hs
    · omega
    · exact h5 s hs
theorem rdQid_un {q : Rd} {rest : List UInt8} (h : AtSplit q rest) (hf : (rdQid q).2.f = 0) : ∃ rest', rest = qdB (rdQid q).1 ++ rest' ∧ AtSplit (rdQid q).2 rest' := by
  have f2 := (Rd.num_adv (q := ((q.num 1).2.num 4).2) hf).1
  have f1 := (Rd.num_adv f2).1
  obtain ⟨r1, e1, h1⟩ := h.unnum f1
  obtain ⟨r2, e2, h2⟩ := h1.unnum f2
  obtain ⟨r3, e3, h3⟩ := h2.unnum hf
  refine ⟨r3, ?_, h3⟩
  rw [e1, e2, e3]
  simp only [qdB, qidL, rdQid, List.append_assoc]
theorem rdQids_un (k : Nat) : ∀ (q : Rd) (acc : List Qd) (rest : List UInt8), AtSplit q rest → (rdQids k q acc).2.f = 0 →
    ∃ l rest', (rdQids k q acc).1 = acc ++ l ∧ l.length = k ∧ rest = l.flatMap qdB ++ rest' ∧ AtSplit (rdQids k q acc).2 rest' := by
  induction k with
  | zero => exact fun q acc rest h _ => ⟨[], rest, (List.append_nil _).symm, rfl, rfl, h⟩
  | succ k ih =>
    intro q acc rest h hf
    have e : rdQids (k + 1) q acc = rdQids k (rdQid q).2 (acc ++ [(rdQid q).1]) := if_neg (by rw [h.1]; simp)
    rw [e] at hf ⊢
    obtain ⟨r1, e1, h2⟩ := rdQid_un h (rdQids_adv hf)
    obtain ⟨l, r2, e2, h3, h4, h6⟩ := ih _ _ r1 h2 hf
    exact ⟨(rdQid q).1 :: l, r2, by rw [e2, List.append_assoc]; rfl, by rw [List.length_cons, h3], by rw [e1, h4, List.flatMap_cons, List.append_assoc], h6⟩
theorem rd_adv {s : Re} {f : Fld} (h : (Fld.rd s f).q.f = 0) (hl : (Fld.rd s f).long = false) (hw : (Fld.rd s f).wrong = false) : s.q.f = 0 ∧ s.long = false ∧ s.wrong = false := by
  cases f
  case version => exact ⟨(Rd.text_adv h).1, hl, hw⟩
  case uname => exact ⟨(Rd.text_adv h).1, hl, hw⟩
  case aname => exact ⟨(Rd.text_adv h).1, hl, hw⟩
  case ename => exact ⟨(Rd.text_adv h).1, hl, hw⟩
  case name => exact ⟨(Rd.text_adv h).1, hl, hw⟩
  case names => exact ⟨(Rd.num_adv (rdTexts_adv h)).1, (Bool.or_eq_false_iff.1 hl).1, hw⟩
  case qids => exact ⟨(Rd.num_adv (rdQids_adv h)).1, (Bool.or_eq_false_iff.1 hl).1, hw⟩
  case qid => exact ⟨(Rd.num_adv (Rd.num_adv (Rd.num_adv (q := ((s.q.num 1).2.num 4).2) h).1).1).1, hl, hw⟩
  case data => exact ⟨(Rd.num_adv (Rd.bytes_adv (q := (s.q.num 4).2) h).1).1, hl, hw⟩
  case stat => exact ⟨(Rd.num_adv (Rd.bytes_adv (q := (s.q.num 2).2) h).1).1, hl, (Bool.or_eq_false_iff.1 hw).1⟩
  all_goals exact ⟨(Rd.num_adv h).1, hl, hw⟩
theorem un_fld {s : Re} {f : Fld} {rest : List UInt8} (h : AtSplit s.q rest) (hf : (Fld.rd s f).q.f = 0) (hl : (Fld.rd s f).long = false) (hw : (Fld.rd s f).wrong = false) :
    ∃ rest', rest = fldB (Fld.rd s f).m f ++ rest' ∧ AtSplit (Fld.rd s f).q rest' ∧ fldOk (Fld.rd s f).m f := by
  cases f
  case version => obtain ⟨r, e, h1, h2⟩ := h.untext hf; exact ⟨r, e, h2, Nat.le_of_lt_succ h1⟩
  case uname => obtain ⟨r, e, h1, h2⟩ := h.untext hf; exact ⟨r, e, h2, Nat.le_of_lt_succ h1⟩
  case aname => obtain ⟨r, e, h1, h2⟩ := h.untext hf; exact ⟨r, e, h2, Nat.le_of_lt_succ h1⟩
  case ename => obtain ⟨r, e, h1, h2⟩ := h.untext hf; exact ⟨r, e, h2, Nat.le_of_lt_succ h1⟩
  case name => obtain ⟨r, e, h1, h2⟩ := h.untext hf; exact ⟨r, e, h2, Nat.le_of_lt_succ h1⟩
  case qid => obtain ⟨r, e, h1⟩ := rdQid_un h hf; exact ⟨r, e, h1, trivial⟩
  case names =>
    have hn := Rd.num_lt s.q 2
    obtain ⟨r1, e1, h1⟩ := h.unnum (rdTexts_adv hf)
    obtain ⟨l, r2, e2, h3, h4, h5, h6⟩ := rdTexts_un _ _ [] r1 h1 hf
    rw [List.nil_append] at e2
    have h16 : ¬ 16 < (rdTexts (s.q.num 2).1 (s.q.num 2).2 []).1.length := of_decide_eq_false (Bool.or_eq_false_iff.1 hl).2
    rw [e2] at h16
    refine ⟨r2, ?_, h6, ?_⟩
    · show rest = leBytes 2 (rdTexts (s.q.num 2).1 (s.q.num 2).2 []).1.length ++ (rdTexts (s.q.num 2).1 (s.q.num 2).2 []).1.flatMap txt ++ r2
      rw [e2, e1, h3, h4, List.append_assoc]
    · show (rdTexts (s.q.num 2).1 (s.q.num 2).2 []).1.length ≤ 16 ∧ ∀ x ∈ (rdTexts (s.q.num 2).1 (s.q.num 2).2 []).1, x.size ≤ 65535
      rw [e2]
      exact ⟨by omega, h5⟩
  case qids =>
    have hn := Rd.num_lt s.q 2
    obtain ⟨r1, e1, h1⟩ := h.unnum (rdQids_adv hf)
    obtain ⟨l, r2, e2, h3, h4, h6⟩ := rdQids_un _ _ [] r1 h1 hf
    rw [List.nil_append] at e2
    have h16 : ¬ 16 < (rdQids (s.q.num 2).1 (s.q.num 2).2 []).1.length := of_decide_eq_false (Bool.or_eq_false_iff.1 hl).2
    rw [e2] at h16
    refine ⟨r2, ?_, h6, ?_⟩
    · show rest = leBytes 2 (rdQids (s.q.num 2).1 (s.q.num 2).2 []).1.length ++ (rdQids (s.q.num 2).1 (s.q.num 2).2 []).1.flatMap qdB ++ r2
      rw [e2, e1, h3, h4, List.append_assoc]
    · show (rdQids (s.q.num 2).1 (s.q.num 2).2 []).1.length ≤ 16
      rw [e2]
      omega
  case data =>
    obtain ⟨r1, e1, h1⟩ := h.unnum (Rd.bytes_adv (q := (s.q.num 4).2) hf).1
    obtain ⟨r2, e2, h2, h3⟩ := h1.unbytes hf
    refine ⟨r2, ?_, h3, trivial⟩
    show rest = leBytes 4 (rdData s.q).1.size ++ (rdData s.q).1.data.toList ++ r2
    unfold rdData
    rw [h2, List.append_assoc, ← e2, ← e1]
  case stat =>
    have hn := Rd.num_lt s.q 2
    obtain ⟨r1, e1, h1⟩ := h.unnum (Rd.bytes_adv (q := (s.q.num 2).2) hf).1
    obtain ⟨r2, e2, h2, h3⟩ := h1.unbytes hf
    have hd : (decS (rdStatB s.q).1).2 = 0 := Decidable.not_not.1 (of_decide_eq_false (Bool.or_eq_false_iff.1 hw).2)
    have hb := (enc_dec _ hd).1
    refine ⟨r2, ?_, h3, ?_⟩
    · show rest = leBytes 2 (encS (decS (rdStatB s.q).1).1).1.size ++ (encS (decS (rdStatB s.q).1).1).1.data.toList ++ r2
      rw [hb]
      show rest = leBytes 2 (rdStatB s.q).1.size ++ (rdStatB s.q).1.data.toList ++ r2
      unfold rdStatB
      rw [h2, List.append_assoc, ← e2, ← e1]
    · show (encS (decS (rdStatB s.q).1).1).2 = 0 ∧ (encS (decS (rdStatB s.q).1).1).1.size ≤ 65535
      rw [hb]
      refine ⟨rfl, ?_⟩
      show ((s.q.num 2).2.bytes (s.q.num 2).1).1.size ≤ 65535
      rw [h2]
      have : (s.q.num 2).1 < 65536 := hn
      omega
  all_goals
    obtain ⟨r, e, h1⟩ := h.unnum hf
    exact ⟨r, e, h1, trivial⟩
set_option maxHeartbeats 2000000 in
theorem keep_fld (s : Re) {f g : Fld} (h : f ≠ g) : fldB (Fld.rd s g).m f = fldB s.m f ∧ (fldOk (Fld.rd s g).m f ↔ fldOk s.m f) := by
  cases f <;> cases g <;> first | exact absurd rfl h | exact ⟨rfl, Iff.rfl⟩
theorem keep_flds (l : List Fld) : ∀ (s : Re) {f : Fld}, f ∉ l → fldB (l.foldl Fld.rd s).m f = fldB s.m f ∧ (fldOk (l.foldl Fld.rd s).m f ↔ fldOk s.m f) := by
  induction l with
  | nil => exact fun s f _ => ⟨rfl, Iff.rfl⟩
  | cons g l ih =>
    intro s f hf
    have h1 := ih (Fld.rd s g) (f := f) (fun x => hf (List.mem_cons_of_mem _ x))
    have h2 := keep_fld s (f := f) (g := g) (fun x => hf (x ▸ List.mem_cons_self ..))
    exact ⟨h1.1.trans h2.1, h1.2.trans h2.2⟩
theorem rds_adv (l : List Fld) : ∀ (s : Re), (l.foldl Fld.rd s).q.f = 0 → (l.foldl Fld.rd s).long = false → (l.foldl Fld.rd s).wrong = false → s.q.f = 0 ∧ s.long = false ∧ s.wrong = false := by
  induction l with
  | nil => exact fun s h1 h2 h3 => ⟨h1, h2, h3⟩
  | cons g l ih =>
    intro s h1 h2 h3
    obtain ⟨a, b, c⟩ := ih (Fld.rd s g) h1 h2 h3
    exact rd_adv a b c
theorem un_flds (l : List Fld) : ∀ (s : Re) (rest : List UInt8), l.Nodup → AtSplit s.q rest → (l.foldl Fld.rd s).q.f = 0 → (l.foldl Fld.rd s).long = false → (l.foldl Fld.rd s).wrong = false →
    ∃ rest', rest = l.flatMap (fldB (l.foldl Fld.rd s).m) ++ rest' ∧ AtSplit (l.foldl Fld.rd s).q rest' ∧ ∀ f ∈ l, fldOk (l.foldl Fld.rd s).m f := by
  induction l with
  | nil => exact fun s rest _ h _ _ _ => ⟨rest, rfl, h, fun f hf => (by cases hf)⟩
  | cons g l ih =>
    intro s rest hnd h h1 h2 h3
    obtain ⟨hg, hnd⟩ := List.nodup_cons.1 hnd
    obtain ⟨a, b, c⟩ := rds_adv l (Fld.rd s g) h1 h2 h3
    obtain ⟨r1, e1, h4, h5⟩ := un_fld h a b c
    obtain ⟨r2, e2, h6, h7⟩ := ih (Fld.rd s g) r1 hnd h4 h1 h2 h3
    have hk := keep_flds l (Fld.rd s g) hg
    refine ⟨r2, ?_, h6, ?_⟩
    · rw [List.flatMap_cons, List.foldl_cons, hk.1, e1, e2, List.append_assoc]
    · intro f hf
      rcases List.mem_cons.1 hf with rfl | hf
      · exact hk.2.2 h5
      · exact h7 f hf
end Go.Proofs.YtklpopmjpgdjnaaGreatDoor
