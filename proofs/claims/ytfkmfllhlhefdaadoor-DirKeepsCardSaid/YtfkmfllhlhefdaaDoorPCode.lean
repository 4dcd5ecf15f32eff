/- Package code, plain: what a reader does, and numbers as bytes. -/
import Derived.Laws.BitsAllLaws
import Derived.Laws.Strings
namespace Go.Proofs.YtfkmfllhlhefdaaDoor

/-- a reader: its bytes, its place, its fault -/
structure Rd where
  s : ByteArray
  at_ : Nat
  f : Int

def Rd.bytes (r : Rd) (n : Int) : ByteArray × Rd :=
  if r.f ≠ 0 then (ByteArray.empty, r)
  else if n < 0 then (ByteArray.empty, { r with f := 2 })
  else if r.s.size < r.at_ + n.toNat then (ByteArray.empty, { r with f := 50 })
  else (r.s.extract r.at_ (r.at_ + n.toNat), { r with at_ := r.at_ + n.toNat, f := 0 })

theorem Rd.bytes_size_le (r : Rd) (k : Nat) : (r.bytes k).1.size ≤ k := by
  unfold Rd.bytes
  repeat' split
  all_goals simp [ByteArray.size_extract]
  all_goals omega

/-- a number, the lowest byte first -/
def leNat : List UInt8 → Nat
  | [] => 0
  | c :: l => c.toNat + 256 * leNat l

def Rd.num (r : Rd) (k : Nat) : Nat × Rd := (leNat (r.bytes k).1.data.toList, (r.bytes k).2)

/-- so many bytes of a number, the lowest first -/
def leBytes : Nat → Nat → List UInt8
  | 0, _ => []
  | n + 1, x => UInt8.ofNat x :: leBytes n (x / 256)
theorem leBytes_length (n x : Nat) : (leBytes n x).length = n := by
  induction n generalizing x with
  | zero => rfl
  | succ n ih => simp [leBytes, ih]
theorem leBytes_get (n x j : Nat) (h : j < (leBytes n x).length) : ((leBytes n x)[j]).toNat = x / 2 ^ (8 * j) % 256 := by
  induction n generalizing x j with
  | zero => exact absurd h (Nat.not_lt_zero _)
  | succ n ih =>
    cases j with
    | zero => simp [leBytes]
    | succ j =>
      have h' : j < (leBytes n (x / 256)).length := by simpa [leBytes] using h
      have := ih (x / 256) j h'
      simp only [leBytes, List.getElem_cons_succ]
      rw [this, Nat.div_div_eq_div_mul, show 8 * (j + 1) = 8 + 8 * j from by omega, Nat.pow_add]
theorem leBytes_mod (n x : Nat) : leBytes n (x % 2 ^ (8 * n)) = leBytes n x := by
  induction n generalizing x with
  | zero => rfl
  | succ n ih =>
    have e1 : x % 2 ^ (8 * (n + 1)) / 256 = (x / 256) % 2 ^ (8 * n) := by
      rw [show 8 * (n + 1) = 8 + 8 * n from by omega, Nat.pow_add, show (2 : Nat) ^ 8 = 256 from rfl, Nat.mod_mul_right_div_self]
    have e2 : UInt8.ofNat (x % 2 ^ (8 * (n + 1))) = UInt8.ofNat x := by
      apply UInt8.toNat_inj.1
      rw [UInt8.toNat_ofNat', UInt8.toNat_ofNat']
      rw [show 8 * (n + 1) = 8 + 8 * n from by omega, Nat.pow_add, Nat.mod_mul_right_mod]
    rw [leBytes, leBytes, e1, ih, e2]
theorem leNat_leBytes (n x : Nat) : leNat (leBytes n x) = x % 2 ^ (8 * n) := by
  induction n generalizing x with
  | zero => simp [leBytes, leNat, Nat.mod_one]
  | succ n ih =>
    rw [leBytes, leNat, ih, show 8 * (n + 1) = 8 + 8 * n from by omega, Nat.pow_add, Nat.mod_mul]
    simp

theorem leNat_append (l m : List UInt8) : leNat (l ++ m) = leNat l + 2 ^ (8 * l.length) * leNat m := by
  induction l with
  | nil => simp [leNat]
  | cons c l ih =>
    simp only [List.cons_append, leNat, ih, List.length_cons]
    rw [show 8 * (l.length + 1) = 8 * l.length + 8 from by omega, Nat.pow_add]
    generalize 2 ^ (8 * l.length) = q
    rw [show (2 : Nat) ^ 8 = 256 from rfl, Nat.mul_add, Nat.mul_comm q 256, Nat.mul_assoc]
    omega
theorem leNat_lt (l : List UInt8) : leNat l < 2 ^ (8 * l.length) := by
  induction l with
  | nil => simp [leNat]
  | cons c l ih =>
    simp only [leNat, List.length_cons]
    rw [show 8 * (l.length + 1) = 8 * l.length + 8 from by omega, Nat.pow_add]
    have := c.toNat_lt
    omega

/-- what a reader's round does: one byte more, shifted to its place -/
theorem le_or (l : List UInt8) (c : UInt8) (k : Nat) (hl : l.length = k) (hk : k < 8) :
    bits BinOp.or IntKind.u64 (leNat l : Int) (IntKind.u64.wrap (IntKind.u64.wrap (c.toNat : Int) * 2 ^ (8 * k))) = (leNat (l ++ [c]) : Int) := by
  have h1 := leNat_lt l
  have hc := c.toNat_lt
  have hp : (2 : Nat) ^ (8 * k) * 256 ≤ 18446744073709551616 := by
    have : (2 : Nat) ^ (8 * k + 8) ≤ 2 ^ 64 := Nat.pow_le_pow_right (by omega) (by omega)
    rw [Nat.pow_add] at this
    omega
  rw [hl] at h1
  rw [leNat_append, hl]
  generalize hq : 2 ^ (8 * k) = q at *
  have hq' : (2 : Int) ^ (8 * k) = (q : Int) := by rw [← hq]; push_cast; rfl
  have h2 : c.toNat * q ≤ 255 * q := Nat.mul_le_mul_right q (by omega)
  rw [hq', show IntKind.u64.wrap (c.toNat : Int) = (c.toNat : Int) from by rw [IntKind.wrap_u64]; omega]
  rw [show IntKind.u64.wrap ((c.toNat : Int) * (q : Int)) = ((c.toNat * q : Nat) : Int) from by rw [IntKind.wrap_u64, ← Int.natCast_mul]; omega]
  rw [u64_or_nat _ _ (by omega) (by omega), Nat.or_comm, nat_join (8 * k) _ _ (by rw [hq]; exact Nat.mul_mod_left _ _) (by rw [hq]; exact h1)]
  simp only [leNat, Nat.mul_zero, Nat.add_zero]
  rw [Nat.mul_comm, Nat.add_comm]

theorem take_snoc (s : ByteArray) (k : Nat) (h : k < s.size) : s.data.toList.take (k + 1) = s.data.toList.take k ++ [s.data[k]] := by
  rw [List.take_succ_eq_append_getElem (by simpa using h)]; rfl
theorem le_round (t : ByteArray) (k : Nat) (h : k < t.size) (hk : k < 8) :
    bits BinOp.or IntKind.u64 (leNat (t.data.toList.take k) : Int) (IntKind.u64.wrap (IntKind.u64.wrap ((t.data[k]).toNat : Int) * 2 ^ (8 * k))) = (leNat (t.data.toList.take (k + 1)) : Int) := by
  rw [take_snoc t k h]
  exact le_or _ _ k (by rw [List.length_take, Array.length_toList]; have : t.data.size = t.size := rfl; omega) hk
theorem take_all (t : ByteArray) : t.data.toList.take t.size = t.data.toList := List.take_of_length_le (by rw [Array.length_toList]; exact Nat.le_refl _)

/-- a deferred 'keep': behind a fault the place is put back -/
def Rd.keep (r : Rd) (a : Nat) : Rd := if r.f ≠ 0 then { r with at_ := a } else r

/-- a text: a number of two bytes, then so many; a fault puts the place back -/
def Rd.text (r : Rd) : ByteArray × Rd := (((r.num 2).2.bytes (r.num 2).1).1, ((r.num 2).2.bytes (r.num 2).1).2.keep r.at_)

theorem Rd.bytes_s (r : Rd) (n : Int) : (r.bytes n).2.s = r.s := by
  unfold Rd.bytes
  repeat' split
  all_goals rfl
theorem Rd.bytes_at (r : Rd) (n : Int) (h : r.at_ ≤ r.s.size) : (r.bytes n).2.at_ ≤ (r.bytes n).2.s.size := by
  unfold Rd.bytes
  repeat' split
  all_goals simp
  all_goals omega
theorem Rd.num_s (r : Rd) (n : Nat) : (r.num n).2.s = r.s := Rd.bytes_s r n
theorem Rd.num_at (r : Rd) (n : Nat) (h : r.at_ ≤ r.s.size) : (r.num n).2.at_ ≤ (r.num n).2.s.size := Rd.bytes_at r n h
theorem Rd.keep_s (r : Rd) (a : Nat) : (r.keep a).s = r.s := by unfold Rd.keep; split <;> rfl
theorem Rd.text_s (r : Rd) : r.text.2.s = r.s := by unfold Rd.text; simp only [Rd.keep_s, Rd.bytes_s, Rd.num_s]
theorem Rd.text_at (r : Rd) (h : r.at_ ≤ r.s.size) : r.text.2.at_ ≤ r.text.2.s.size := by
  rw [Rd.text_s]
  unfold Rd.text Rd.keep
  have := Rd.bytes_at (r.num 2).2 (r.num 2).1 (Rd.num_at r 2 h)
  rw [Rd.bytes_s, Rd.num_s] at this
  simp only
  split <;> assumption
theorem Rd.num_lt (r : Rd) (k : Nat) : (r.num k).1 < 2 ^ (8 * k) := by
  have h := leNat_lt (r.bytes k).1.data.toList
  have h2 : (r.bytes k).1.data.toList.length ≤ k := by rw [Array.length_toList]; exact Rd.bytes_size_le r k
  exact Nat.lt_of_lt_of_le h (Nat.pow_le_pow_right (by omega) (by omega))

/-- so many texts, one behind the other, till a fault -/
def Rd.textsGo : Nat → Rd → List ByteArray → Option (List ByteArray) × Rd
  | 0, r, l => (some l, r)
  | k + 1, r, l => if r.text.2.f ≠ 0 then (none, r.text.2) else Rd.textsGo k r.text.2 (l ++ [r.text.1])

/-- a list's number is at most so many -/
def Rd.cap (r : Rd) (n : Nat) (most : Int) : Rd := if r.f = 0 ∧ max most 0 < (n : Int) then { r with f := 4 } else r

def Rd.texts (r : Rd) (most : Int) : List ByteArray × Rd :=
  let g := Rd.textsGo (r.num 2).1 ((r.num 2).2.cap (r.num 2).1 most) []
  (g.1.getD [], g.2.keep r.at_)

def Rd.end_ (r : Rd) : Int := if r.f ≠ 0 then r.f else if r.at_ < r.s.size then 51 else 0

theorem extract_isEmpty (s : ByteArray) (a : Nat) (h : a ≤ s.size) : (s.extract a s.size).toList.isEmpty = decide (¬ a < s.size) := by
  rw [ByteArray.toList_eq]
  have hs : (s.extract a s.size).data.toList.length = s.size - a := by
    rw [Array.length_toList]
    show (s.extract a s.size).size = _
    simp [ByteArray.size_extract]
  cases hl : (s.extract a s.size).data.toList with
  | nil =>
    rw [hl] at hs
    simp only [List.length_nil] at hs
    rw [decide_eq_true (by omega)]; rfl
  | cons x l =>
    rw [hl] at hs
    simp only [List.length_cons] at hs
    rw [decide_eq_false (by omega)]; rfl

theorem Rd.bytes_fault (r : Rd) (n : Int) (h : r.f ≠ 0) : r.bytes n = (ByteArray.empty, r) := if_pos h
theorem Rd.bytes_empty (r : Rd) (n : Int) (h : (r.bytes n).2.f ≠ 0) : (r.bytes n).1 = ByteArray.empty := by
  revert h
  unfold Rd.bytes
  repeat' split
  all_goals simp
theorem Rd.text_empty (r : Rd) (h : ((r.num 2).2.bytes (r.num 2).1).2.f ≠ 0) : r.text.1 = ByteArray.empty := Rd.bytes_empty _ _ h
theorem Rd.text_fault (r : Rd) (h : r.f ≠ 0) : r.text = (ByteArray.empty, r) := by
  have h1 : r.num 2 = (0, r) := by unfold Rd.num; rw [Rd.bytes_fault r _ h]; rfl
  unfold Rd.text
  rw [h1]
  simp only [Rd.bytes_fault r _ h]
  unfold Rd.keep
  rw [if_pos h]
theorem Rd.textsGo_s (k : Nat) : ∀ (r : Rd) (acc : List ByteArray), (Rd.textsGo k r acc).2.s = r.s := by
  induction k with
  | zero => intro r acc; rfl
  | succ k ih =>
    intro r acc
    unfold Rd.textsGo
    split
    · exact r.text_s
    · rw [ih]; exact r.text_s
theorem Rd.textsGo_at (k : Nat) : ∀ (r : Rd) (acc : List ByteArray), r.at_ ≤ r.s.size → (Rd.textsGo k r acc).2.at_ ≤ (Rd.textsGo k r acc).2.s.size := by
  induction k with
  | zero => intro r acc h; exact h
  | succ k ih =>
    intro r acc h
    unfold Rd.textsGo
    split
    · exact r.text_at h
    · exact ih _ _ (r.text_at h)
theorem Rd.cap_s' (r : Rd) (n : Nat) (most : Int) : (r.cap n most).s = r.s ∧ (r.cap n most).at_ = r.at_ := by unfold Rd.cap; split <;> exact ⟨rfl, rfl⟩
theorem Rd.texts_s (r : Rd) (n : Int) : (r.texts n).2.s = r.s := by
  unfold Rd.texts
  simp only [Rd.keep_s, Rd.textsGo_s]
  rw [(Rd.cap_s' _ _ _).1, Rd.num_s]
theorem Rd.texts_at (r : Rd) (n : Int) (h : r.at_ ≤ r.s.size) : (r.texts n).2.at_ ≤ (r.texts n).2.s.size := by
  have h1 := Rd.textsGo_at (r.num 2).1 ((r.num 2).2.cap (r.num 2).1 n) [] (by rw [(Rd.cap_s' _ _ _).1, (Rd.cap_s' _ _ _).2]; exact Rd.num_at r 2 h)
  rw [Rd.texts_s]
  rw [Rd.textsGo_s, (Rd.cap_s' _ _ _).1, Rd.num_s] at h1
  unfold Rd.texts Rd.keep
  simp only
  split <;> assumption
theorem Rd.textsGo_fault (n : Nat) (r : Rd) (h : r.f ≠ 0) : (Rd.textsGo n r []).1.getD [] = [] ∧ (Rd.textsGo n r []).2 = r := by
  cases n with
  | zero => exact ⟨rfl, rfl⟩
  | succ n =>
    have e : Rd.textsGo (n + 1) r [] = (none, r) := by
      show (if r.text.2.f ≠ 0 then _ else _) = _
      rw [Rd.text_fault r h, if_pos h]
    rw [e]; exact ⟨rfl, rfl⟩

theorem le_shift (t : ByteArray) (k : Nat) (hk : k < t.size) (ht : t.size ≤ 8) :
    bits BinOp.or IntKind.u64 (IntKind.u64.wrap ((leNat (t.data.toList.drop (k + 1)) : Int) * 256)) (IntKind.u64.wrap (t.data[k].toNat : Int)) = (leNat (t.data.toList.drop k) : Int) := by
  have hl : k < t.data.toList.length := by rw [Array.length_toList]; exact hk
  have h1 := leNat_lt (t.data.toList.drop (k + 1))
  have hc := (t.data[k]).toNat_lt
  have h2 : (t.data.toList.drop (k + 1)).length ≤ 7 := by rw [List.length_drop, Array.length_toList]; have : t.data.size = t.size := rfl; omega
  have h3 : leNat (t.data.toList.drop (k + 1)) < 72057594037927936 := Nat.lt_of_lt_of_le h1 (by
    have : (2 : Nat) ^ (8 * (t.data.toList.drop (k + 1)).length) ≤ 2 ^ 56 := Nat.pow_le_pow_right (by omega) (by omega)
    exact this)
  rw [List.drop_eq_getElem_cons hl, leNat]
  generalize leNat (t.data.toList.drop (k + 1)) = q at *
  have e1 : IntKind.u64.wrap ((q : Int) * 256) = ((q * 256 : Nat) : Int) := by rw [IntKind.wrap_u64, Int.natCast_mul]; omega
  have e2 : IntKind.u64.wrap (t.data[k].toNat : Int) = (t.data[k].toNat : Int) := by rw [IntKind.wrap_u64]; omega
  rw [e1, e2, u64_or_nat _ _ (by omega) (by omega), nat_join 8 _ _ (by omega) (by omega)]
  have e3 : t.data.toList[k] = t.data[k] := rfl
  rw [e3]
  omega

end Go.Proofs.YtfkmfllhlhefdaaDoor
