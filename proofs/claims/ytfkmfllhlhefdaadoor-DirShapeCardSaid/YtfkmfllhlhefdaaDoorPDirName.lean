/- Names, plain: a valid text has a bad letter where it has a bad byte. -/
import Derived.Test.YtfkmfllhlhefdaaDoorPDir
import Derived.Lib.MapLaws
import Derived.Lib.ValidLaws
import Derived.Lib.TrimUEq
import Derived.Shelf.GgClosure.StringsIndexFunc
namespace Go.Proofs.YtfkmfllhlhefdaaDoor
open Go.Lib

def badR (r : Nat) : Bool := decide (r < 32) || (decide (r = 127) || decide (r = 47))
theorem badB_high (z : Int) (h : 128 ≤ z) (h2 : z ≤ 255) : badB z.toNat.toUInt8 = false := by
  unfold badB
  have e : z.toNat.toUInt8.toNat = z.toNat := by
    show z.toNat % 256 = z.toNat
    omega
  rw [e]
  simp
  omega
theorem enc_bad (r : Nat) : (encodeRune (r : Int)).any badB = badR r := by
  unfold encodeRune
  by_cases h1 : r ≤ 127
  · rw [encodeRuneZ_one (by omega) (by omega)]
    simp only [List.map_cons, List.map_nil, List.any_cons, List.any_nil, Bool.or_false]
    unfold badB badR
    have e : ((r : Int).toNat.toUInt8).toNat = r := by show (r : Int).toNat % 256 = r; omega
    rw [e]
  · have hb : badR r = false := by unfold badR; simp; omega
    rw [hb]
    unfold encodeRuneZ
    rw [if_neg (by omega)]
    repeat' split
    all_goals simp only [List.map_cons, List.map_nil, List.any_cons, List.any_nil, Bool.or_false]
    all_goals (repeat rw [badB_high _ (by omega) (by omega)])
    all_goals first | rfl | decide
theorem idx_bad (s : ByteArray) : ∀ f pos, validD (s.data.toList.drop pos) = true → s.size ≤ pos + f → decide (0 ≤ idxFuncFrom badR true s f pos) = (s.data.toList.drop pos).any badB := by
  have hsz : s.data.toList.length = s.size := Array.length_toList
  intro f
  induction f with
  | zero =>
    intro pos _ h
    rw [List.drop_eq_nil_of_le (by omega)]
    rfl
  | succ f ih =>
    intro pos hv h
    by_cases hp : pos < s.size
    · have hne : s.data.toList.drop pos ≠ [] := fun e => by
        have := congrArg List.length e
        rw [List.length_drop] at this
        simp at this
        omega
      rw [validD_step _ hne] at hv
      split at hv
      · cases hv
      rename_i hnv
      have he := encode_decode _ hne hnv
      have hw := decodeL_width (s.data.toList.drop pos)
      rw [List.drop_drop] at hv
      have hd := decodeL_drop s pos
      rw [hd] at he hw hv
      rw [idxFuncFrom, if_pos hp]
      have hsplit : (s.data.toList.drop pos).any badB = (badR (Utf8.decode s pos).1 || (s.data.toList.drop (pos + (Utf8.decode s pos).2)).any badB) := by
        rw [← enc_bad, he, ← List.drop_drop, ← List.any_append, List.take_append_drop]
      rw [hsplit]
      cases hb : badR (Utf8.decode s pos).1
      · rw [if_neg (by decide), Bool.false_or]
        exact ih _ hv (by omega)
      · rw [if_pos rfl, Bool.true_or]
        exact decide_eq_true (by omega)
    · rw [idxFuncFrom_end _ _ _ _ _ hp, List.drop_eq_nil_of_le (by omega)]
      rfl
/-- strings.ContainsFunc at a valid text -/
theorem idx_valid (s : ByteArray) (h : validD s.data.toList = true) : decide (0 ≤ idxFunc badR true s) = s.data.toList.any badB := by
  have := idx_bad s s.size 0 (by rw [List.drop_zero]; exact h) (by omega)
  rw [List.drop_zero] at this
  exact this
end Go.Proofs.YtfkmfllhlhefdaaDoor
