/- Plain: what was written is read. -/
import Derived.Test.YthibakgnddmlfaaUnpad
import Derived.Test.YthibakgnddmlfaaPutTexts
namespace Go.Proofs.Ythibakgnddmlfaa

theorem bs_extract (a m b : List UInt8) : (bs (a ++ (m ++ b))).extract a.length (a.length + m.length) = bs m := by
  apply ByteArray.ext
  apply Array.ext'
  simp only [ByteArray.data_extract, Array.toList_extract, List.extract_eq_take_drop, bs_data]
  rw [show a.length + m.length - a.length = m.length from by omega, List.drop_left, List.take_left]
theorem bytes_at (a m b : List UInt8) (k : Nat) (hk : m.length = k) : Rd.bytes ⟨bs (a ++ (m ++ b)), a.length, 0⟩ k = (bs m, ⟨bs (a ++ (m ++ b)), (a ++ m).length, 0⟩) := by
  unfold Rd.bytes
  simp only
  rw [if_neg (by decide), if_neg (by omega), Int.toNat_natCast, if_neg (by rw [bs_size, List.length_append, List.length_append]; omega), ← hk, bs_extract, List.length_append]
theorem num_at (a b : List UInt8) (k x : Nat) (hx : x < 2 ^ (8 * k)) : Rd.num ⟨bs (a ++ (leBytes k x ++ b)), a.length, 0⟩ k = (x, ⟨bs (a ++ (leBytes k x ++ b)), (a ++ leBytes k x).length, 0⟩) := by
  unfold Rd.num
  rw [bytes_at a _ b k (leBytes_length k x)]
  simp only [bs_data]
  rw [leNat_leBytes, Nat.mod_eq_of_lt hx]
theorem num_at' (a b : List UInt8) (k x : Nat) : Rd.num ⟨bs (a ++ (leBytes k x ++ b)), a.length, 0⟩ k = (x % 2 ^ (8 * k), ⟨bs (a ++ (leBytes k x ++ b)), (a ++ leBytes k x).length, 0⟩) := by
  unfold Rd.num
  rw [bytes_at a _ b k (leBytes_length k x)]
  simp only [bs_data]
  rw [leNat_leBytes]
def txt (s : ByteArray) : List UInt8 := leBytes 2 s.size ++ s.data.toList
theorem txt_length (s : ByteArray) : (txt s).length = 2 + s.size := by unfold txt; rw [List.length_append, leBytes_length, Array.length_toList]; rfl
theorem text_at (a b : List UInt8) (s : ByteArray) (hs : s.size ≤ 65535) : Rd.text ⟨bs (a ++ (txt s ++ b)), a.length, 0⟩ = (s, ⟨bs (a ++ (txt s ++ b)), (a ++ txt s).length, 0⟩) := by
  have e1 : a ++ (txt s ++ b) = a ++ (leBytes 2 s.size ++ (s.data.toList ++ b)) := by unfold txt; rw [List.append_assoc]
  have e2 : a ++ (txt s ++ b) = (a ++ leBytes 2 s.size) ++ (s.data.toList ++ b) := by rw [e1, List.append_assoc]
  have h1 : Rd.num ⟨bs (a ++ (txt s ++ b)), a.length, 0⟩ 2 = (s.size, ⟨bs (a ++ (txt s ++ b)), (a ++ leBytes 2 s.size).length, 0⟩) := by
    have := num_at a (s.data.toList ++ b) 2 s.size (by omega)
    rw [← e1] at this
    exact this
  have h2 : Rd.bytes ⟨bs (a ++ (txt s ++ b)), (a ++ leBytes 2 s.size).length, 0⟩ s.size = (s, ⟨bs (a ++ (txt s ++ b)), (a ++ txt s).length, 0⟩) := by
    have := bytes_at (a ++ leBytes 2 s.size) s.data.toList b s.size (by rw [Array.length_toList]; rfl)
    rw [← e2, bs_of] at this
    rw [this]
    unfold txt
    simp only [List.append_assoc]
  unfold Rd.text
  rw [h1]
  simp only [h2]
  rfl
def txts : List ByteArray → List UInt8
  | [] => []
  | s :: l => txt s ++ txts l
theorem textsGo_at (l : List ByteArray) : ∀ (a b : List UInt8) (acc : List ByteArray), (∀ s ∈ l, s.size ≤ 65535) →
    Rd.textsGo l.length ⟨bs (a ++ (txts l ++ b)), a.length, 0⟩ acc = (some (acc ++ l), ⟨bs (a ++ (txts l ++ b)), (a ++ txts l).length, 0⟩) := by
  induction l with
  | nil => intro a b acc _; simp [Rd.textsGo, txts]
  | cons s l ih =>
    intro a b acc h
    have e1 : a ++ (txts (s :: l) ++ b) = a ++ (txt s ++ (txts l ++ b)) := by simp [txts, List.append_assoc]
    have e2 : a ++ (txts (s :: l) ++ b) = (a ++ txt s) ++ (txts l ++ b) := by rw [e1, List.append_assoc]
    have h1 : Rd.text ⟨bs (a ++ (txts (s :: l) ++ b)), a.length, 0⟩ = (s, ⟨bs (a ++ (txts (s :: l) ++ b)), (a ++ txt s).length, 0⟩) := by
      rw [e1]; exact text_at a (txts l ++ b) s (h s (List.mem_cons_self ..))
    have h2 := ih (a ++ txt s) b (acc ++ [s]) (fun t ht => h t (List.mem_cons_of_mem _ ht))
    rw [← e2] at h2
    show (if (Rd.text ⟨bs (a ++ (txts (s :: l) ++ b)), a.length, 0⟩).2.f ≠ 0 then _ else _) = _
    rw [h1, if_neg (show ¬ (0 : Int) ≠ 0 by decide), h2]
    simp [txts, List.append_assoc]
theorem texts_at (a b : List UInt8) (l : List ByteArray) (most : Nat) (hl : l.length ≤ most) (hm : most ≤ 65535) (h : ∀ s ∈ l, s.size ≤ 65535) :
    Rd.texts ⟨bs (a ++ ((leBytes 2 l.length ++ txts l) ++ b)), a.length, 0⟩ most = (l, ⟨bs (a ++ ((leBytes 2 l.length ++ txts l) ++ b)), (a ++ (leBytes 2 l.length ++ txts l)).length, 0⟩) := by
  have e1 : a ++ ((leBytes 2 l.length ++ txts l) ++ b) = a ++ (leBytes 2 l.length ++ (txts l ++ b)) := by rw [List.append_assoc]
  have e2 : a ++ ((leBytes 2 l.length ++ txts l) ++ b) = (a ++ leBytes 2 l.length) ++ (txts l ++ b) := by rw [e1, List.append_assoc]
  have h1 : Rd.num ⟨bs (a ++ ((leBytes 2 l.length ++ txts l) ++ b)), a.length, 0⟩ 2 = (l.length, ⟨bs (a ++ ((leBytes 2 l.length ++ txts l) ++ b)), (a ++ leBytes 2 l.length).length, 0⟩) := by
    have := num_at a (txts l ++ b) 2 l.length (by omega)
    rw [← e1] at this
    exact this
  have h2 := textsGo_at l (a ++ leBytes 2 l.length) b [] h
  rw [← e2] at h2
  unfold Rd.texts
  rw [h1]
  simp only
  have hc : Rd.cap ⟨bs (a ++ ((leBytes 2 l.length ++ txts l) ++ b)), (a ++ leBytes 2 l.length).length, 0⟩ l.length most = ⟨bs (a ++ ((leBytes 2 l.length ++ txts l) ++ b)), (a ++ leBytes 2 l.length).length, 0⟩ := if_neg (by simp only [true_and]; omega)
  rw [hc, h2]
  simp [Rd.keep, List.append_assoc]

theorem wTextsGo_eq (l : List ByteArray) : ∀ (acc a : List UInt8), wTextsGo l acc = some a → a = acc ++ txts l ∧ ∀ s ∈ l, s.size ≤ 65535 := by
  induction l with
  | nil => intro acc a h; simp only [wTextsGo, Option.some.injEq] at h; exact ⟨by simp [txts, h], fun s hs => by cases hs⟩
  | cons s l ih =>
    intro acc a h
    unfold wTextsGo at h
    split at h
    · cases h
    · rename_i hs
      obtain ⟨h1, h2⟩ := ih _ _ h
      refine ⟨by rw [h1]; simp [txts, txt, List.append_assoc], fun t ht => ?_⟩
      rcases List.mem_cons.1 ht with rfl | ht
      · omega
      · exact h2 t ht
theorem txts_length (l : List ByteArray) (h : ∀ s ∈ l, s.size ≤ 65535) : (txts l).length ≤ l.length * 65537 := by
  induction l with
  | nil => simp [txts]
  | cons s l ih =>
    have h1 := h s (List.mem_cons_self ..)
    have h2 := ih (fun t ht => h t (List.mem_cons_of_mem _ ht))
    simp only [txts, List.length_append, List.length_cons, txt_length]
    omega

theorem wTextsGo_ok (l : List ByteArray) (h : ∀ s ∈ l, s.size ≤ 65535) : ∀ acc, wTextsGo l acc = some (acc ++ txts l) := by
  induction l with
  | nil => intro acc; simp [wTextsGo, txts]
  | cons s l ih =>
    intro acc
    unfold wTextsGo
    rw [if_neg (by have := h s (List.mem_cons_self ..); omega), ih (fun t ht => h t (List.mem_cons_of_mem _ ht))]
    simp [txts, txt, List.append_assoc]
theorem wTexts_txts {l : List ByteArray} (h1 : ¬ 65535 < l.length) (h : ∀ s ∈ l, s.size ≤ 65535) : wTexts l = (bs (leBytes 2 l.length ++ txts l), 0) := wTexts_some h1 (wTextsGo_ok l h _)
theorem unpad_pad (s : ByteArray) (k : Nat) (hs : s.size < 4294967296) : unpad (bs (leBytes 4 s.size ++ s.data.toList ++ List.replicate k 0)) = (s, 0) := by
  rw [unpad_eq]
  have e : leBytes 4 s.size ++ s.data.toList ++ List.replicate k 0 = [] ++ (leBytes 4 s.size ++ (s.data.toList ++ List.replicate k 0)) := by simp [List.append_assoc]
  have h1 : (Rd.num ⟨bs (leBytes 4 s.size ++ s.data.toList ++ List.replicate k 0), 0, 0⟩ 4).1 = s.size := by
    rw [e]
    have := num_at [] (s.data.toList ++ List.replicate k 0) 4 s.size (by omega)
    exact congrArg Prod.fst this
  have hl : (bs (leBytes 4 s.size ++ s.data.toList ++ List.replicate k 0)).size = 4 + s.size + k := by
    rw [bs_size, List.length_append, List.length_append, leBytes_length, Array.length_toList, List.length_replicate]; rfl
  unfold runpad
  rw [h1, hl, if_neg (by omega), if_neg (by omega)]
  have h2 : allZ ((bs (leBytes 4 s.size ++ s.data.toList ++ List.replicate k 0)).data.toList.drop (4 + s.size)) = true := by
    rw [bs_data]
    have : (leBytes 4 s.size ++ s.data.toList).length = 4 + s.size := by rw [List.length_append, leBytes_length, Array.length_toList]; rfl
    rw [← this, List.drop_left]
    exact allZ_of fun j hj => by simp
  rw [if_neg (by rw [h2]; simp)]
  have h3 := bs_extract (leBytes 4 s.size) s.data.toList (List.replicate k 0)
  have h4 : (s.data.toList).length = s.size := by rw [Array.length_toList]; rfl
  rw [leBytes_length, h4, bs_of, ← List.append_assoc] at h3
  rw [h3]

/-- all that CodeBack writes, read in a row -/
theorem chain (x : Nat) (s : ByteArray) (l : List ByteArray) (rest : ByteArray) (hx : x < 18446744073709551616) (hs : s.size ≤ 65535) (hl : l.length ≤ 300) (hls : ∀ s ∈ l, s.size ≤ 65535) :
    ∃ L p1 p2 p3 p4 p5 p6, bs (leBytes 8 x) ++ bs (txt s) ++ bs (leBytes 1 x) ++ bs (leBytes 2 l.length ++ txts l) ++ bs (leBytes 4 x) ++ bs (leBytes 2 x) ++ rest = bs L ∧
      Rd.num ⟨bs L, 0, 0⟩ 8 = (x, ⟨bs L, p1, 0⟩) ∧ Rd.text ⟨bs L, p1, 0⟩ = (s, ⟨bs L, p2, 0⟩) ∧ Rd.num ⟨bs L, p2, 0⟩ 1 = (x % 256, ⟨bs L, p3, 0⟩) ∧ Rd.texts ⟨bs L, p3, 0⟩ 300 = (l, ⟨bs L, p4, 0⟩) ∧
      Rd.num ⟨bs L, p4, 0⟩ 4 = (x % 4294967296, ⟨bs L, p5, 0⟩) ∧ Rd.num ⟨bs L, p5, 0⟩ 2 = (x % 65536, ⟨bs L, p6, 0⟩) ∧ (p1 ≤ L.length ∧ p2 ≤ L.length ∧ p3 ≤ L.length ∧ p4 ≤ L.length ∧ p5 ≤ L.length ∧ p6 ≤ L.length) ∧
      (bs L).extract p6 (bs L).size = rest ∧ L.length = p6 + rest.size := by
  refine ⟨leBytes 8 x ++ (txt s ++ (leBytes 1 x ++ ((leBytes 2 l.length ++ txts l) ++ (leBytes 4 x ++ (leBytes 2 x ++ rest.data.toList))))), (leBytes 8 x).length, (leBytes 8 x ++ txt s).length, (leBytes 8 x ++ txt s ++ leBytes 1 x).length,
    (leBytes 8 x ++ txt s ++ leBytes 1 x ++ (leBytes 2 l.length ++ txts l)).length, (leBytes 8 x ++ txt s ++ leBytes 1 x ++ (leBytes 2 l.length ++ txts l) ++ leBytes 4 x).length, (leBytes 8 x ++ txt s ++ leBytes 1 x ++ (leBytes 2 l.length ++ txts l) ++ leBytes 4 x ++ leBytes 2 x).length, ?_, ?_, ?_, ?_, ?_, ?_, ?_, ?_, ?_, ?_⟩
  · have hr : rest = bs rest.data.toList := (bs_of rest).symm
    generalize rest.data.toList = r at *
    rw [hr]
    simp only [← bs_cat, List.append_assoc]
  · have := num_at [] (txt s ++ (leBytes 1 x ++ ((leBytes 2 l.length ++ txts l) ++ (leBytes 4 x ++ (leBytes 2 x ++ rest.data.toList))))) 8 x (by omega)
    simpa using this
  · have := text_at (leBytes 8 x) (leBytes 1 x ++ ((leBytes 2 l.length ++ txts l) ++ (leBytes 4 x ++ (leBytes 2 x ++ rest.data.toList)))) s hs
    simpa [List.append_assoc] using this
  · have := num_at' (leBytes 8 x ++ txt s) ((leBytes 2 l.length ++ txts l) ++ (leBytes 4 x ++ (leBytes 2 x ++ rest.data.toList))) 1 x
    simpa [List.append_assoc] using this
  · have := texts_at (leBytes 8 x ++ txt s ++ leBytes 1 x) (leBytes 4 x ++ (leBytes 2 x ++ rest.data.toList)) l 300 hl (by omega) hls
    simpa [List.append_assoc] using this
  · have := num_at' (leBytes 8 x ++ txt s ++ leBytes 1 x ++ (leBytes 2 l.length ++ txts l)) (leBytes 2 x ++ rest.data.toList) 4 x
    simpa [List.append_assoc] using this
  · have := num_at' (leBytes 8 x ++ txt s ++ leBytes 1 x ++ (leBytes 2 l.length ++ txts l) ++ leBytes 4 x) rest.data.toList 2 x
    simpa [List.append_assoc] using this
  · simp only [List.length_append]
    omega
  · have := bs_extract (leBytes 8 x ++ txt s ++ leBytes 1 x ++ (leBytes 2 l.length ++ txts l) ++ leBytes 4 x ++ leBytes 2 x) rest.data.toList []
    rw [bs_of] at this
    have h2 : (bs (leBytes 8 x ++ (txt s ++ (leBytes 1 x ++ ((leBytes 2 l.length ++ txts l) ++ (leBytes 4 x ++ (leBytes 2 x ++ rest.data.toList))))))).size = (leBytes 8 x ++ txt s ++ leBytes 1 x ++ (leBytes 2 l.length ++ txts l) ++ leBytes 4 x ++ leBytes 2 x).length + rest.data.toList.length := by
      rw [bs_size]; simp only [List.length_append]; omega
    rw [h2]
    simpa [List.append_assoc] using this
  · have h3 : rest.data.toList.length = rest.size := by rw [Array.length_toList]; rfl
    simp only [List.length_append, h3]
    omega

theorem isEmpty_size (s : ByteArray) : s.toList.isEmpty = decide (s.size = 0) := by
  rw [ByteArray.toList_eq]
  have hs : s.data.toList.length = s.size := by rw [Array.length_toList]; rfl
  cases hl : s.data.toList with
  | nil => rw [hl] at hs; rw [decide_eq_true (by simpa using hs.symm)]; rfl
  | cons x l => rw [hl] at hs; simp only [List.length_cons] at hs; rw [decide_eq_false (by omega)]; rfl
/-- 'n & 255' -/
theorem and255 (n : Int) : 0 ≤ bits BinOp.and IntKind.i64 n 255 ∧ bits BinOp.and IntKind.i64 n 255 ≤ 255 := by
  have h : ((BitVec.ofInt 64 n) &&& (BitVec.ofInt 64 255)).toNat ≤ 255 := by
    rw [BitVec.toNat_and, show (BitVec.ofInt 64 255).toNat = 255 from rfl]
    exact Nat.and_le_right
  show 0 ≤ IntKind.i64.wrap ((((BitVec.ofInt 64 n) &&& (BitVec.ofInt 64 255)).toNat : Nat) : Int) ∧ IntKind.i64.wrap ((((BitVec.ofInt 64 n) &&& (BitVec.ofInt 64 255)).toNat : Nat) : Int) ≤ 255
  generalize ((BitVec.ofInt 64 n) &&& (BitVec.ofInt 64 255)).toNat = q at h
  rw [IntKind.wrap_i64]
  omega
end Go.Proofs.Ythibakgnddmlfaa
