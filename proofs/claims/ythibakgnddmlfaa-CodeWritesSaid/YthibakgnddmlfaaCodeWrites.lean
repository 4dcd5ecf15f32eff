/-
  PROVED HERE: for every uint64 x, string s, list of strings l and int n the law CodeWrites returns true: numbers, texts, lists of texts and padded texts are written by package code as by the document; the arguments read afterwards as they did. No conditions.
-/
import Derived.Test.YthibakgnddmlfaaLawKit
import Derived.Test.YthibakgnddmlfaaAlive
import Derived.Test.YthibakgnddmlfaaPutTexts
namespace Go.Proofs.Ythibakgnddmlfaa.codeWrites
open Go.ChangeShapes Go.WideShapes Go.ChangeAt Go.RowKit
open Go.ChangeMaps (open_string shut_string)

set_option maxHeartbeats 1000000 in
theorem walk_many (x : Nat) (s : ByteArray) (a : Option Addr) (m c : Nat) (n : Int) (w : World) (h : 300 < m ∨ 1048576 < n) :
    Calls Try.prog 5 #[.int .u64 x, .string s, .slice a m c, .int .i64 n] w fun e w' => e = .returned (.bool true) ∧ Mod (fun _ => False) w w' := by
  by_cases h1 : 300 < m
  · have h1' : decide ((300 : Int) < (m : Int)) = true := by simp; omega
    go_enter Try.func5, Try.ntmps5
    go_wp2_with fail
    refine (alive_any _).mono ?_; rintro e w5 ⟨rfl, m5⟩
    go_wp2
    go_ret
    exact ⟨rfl, m5⟩
  · have h2 : 1048576 < n := by omega
    have h1' : decide ((300 : Int) < (m : Int)) = false := by simp; omega
    clear h
    go_enter Try.func5, Try.ntmps5
    go_wp2_with fail
    refine (alive_any _).mono ?_; rintro e w5 ⟨rfl, m5⟩
    go_wp2
    go_ret
    exact ⟨rfl, m5⟩

set_option maxHeartbeats 2000000 in
theorem walk_few (x : Nat) (s : ByteArray) (l : List ByteArray) (a : Option Addr) (c : Nat) (n : Int) (w : World) (hx : x < 18446744073709551616) (hs : s.size ≤ maxLen) (hsl : SlAt w (fun _ => True) (.slice a l.length c) (l.map Value.string)) (hls : ∀ s ∈ l, s.size ≤ maxLen) (h1 : ¬ 300 < l.length) (h2 : ¬ 1048576 < n) (hlo : -9223372036854775808 ≤ n) :
    Calls Try.prog 5 #[.int .u64 x, .string s, .slice a l.length c, .int .i64 n] w fun e w' => e = .returned (.bool true) ∧ Mod (fun _ => False) w w' := by
  have h1' : decide ((300 : Int) < (l.length : Int)) = false := by simp; omega
  have HS : Hid (∀ w', Mod (fun _ => False) w w' → SlAt w' (fun _ => True) (.slice a l.length c) (l.map Value.string)) := fun w' hm => hsl.mod hm (fun _ _ _ x => x)
  have hll : l.length ≤ maxLen := by unfold maxLen; omega
  clear hsl
  go_enter Try.func5, Try.ntmps5
  go_wp2_with fail
  refine (text_w s _ hs).mono ?_; rintro e w1 ⟨rfl, m1⟩
  go_wp2_with fail
  refine (text_r s _ hs).mono ?_; rintro e w2 ⟨rfl, m2⟩
  generalize (wText s).1 = t1 at *
  generalize (wText s).2 = e1 at *
  have m02 := m1.trans m2
  clear m1 m2
  have C1 : Hid ((0 + l.length) * 16 ≤ 140737488355328) := by show _ ≤ _; omega
  have C2 : Hid (0 + l.length ≤ 9223372036854775807) := by show _ ≤ _; omega
  have C5 : Hid (Src Try.prog 1 29 (.slice a l.length c) l.length (l.map Value.string) w2) := src_slAt Try.underlying29 (HS.out w2 m02) (by rw [List.length_map]) (by intro u hu; obtain ⟨y, _, rfl⟩ := List.mem_map.1 hu; rfl)
  go_wp2_with (refine wpl_append rfl (.const (.slice none 0 0)) (.tmp 40) _ _ rfl w2.heap.size 9 (.string ByteArray.empty) 1 16 Try.underlying29 info_string rfl (by decide) (.slice none 0 0) 0 [] rfl (OwnA.nil w2 w2.heap.size 1) _ _ _ rfl C5.out C1.out C2.out (Nat.le_refl _) ?_; intro v' w3 hown' hgrow)
  have m03 : Mod (fun _ => False) w w3 := m02.trans' hgrow (fun k _ x => by cases x)
  have hsl3 := hown'.slAt.imp (Q := fun _ => True) (fun _ _ => trivial)
  rw [List.nil_append] at hsl3
  clear hown' hgrow C5 m02
  refine (texts_w l v' _ hsl3 hls hll).mono ?_; rintro e w4 ⟨rfl, m4⟩
  clear hsl3
  have m04 := m03.trans m4
  clear m03 m4
  go_wp2_with fail
  refine (texts_r l _ _ (HS.out _ m04) hls hll).mono ?_; rintro e w5 ⟨rfl, m5⟩
  generalize (wTexts l).1 = t2 at *
  generalize (wTexts l).2 = e2 at *
  go_wp2_with fail
  refine (pad_w s n _ hs (by omega) hlo).mono ?_; rintro e w6 ⟨rfl, m6⟩
  go_wp2_with fail
  refine (pad_r s n _ hs (by omega) hlo).mono ?_; rintro e w7 ⟨rfl, m7⟩
  generalize (wPad s n).1 = t3 at *
  generalize (wPad s n).2 = e3 at *
  have m07 := ((m04.trans m5).trans m6).trans m7
  clear m04 m5 m6 m7
  go_wp2_with fail
  refine (wU8 x _ rfl _).mono ?_; rintro e w8 ⟨rfl, m8⟩
  go_wp2_with fail
  refine (rnum_any x 1 _ rfl _ hx (by omega)).mono ?_; rintro e w9 ⟨rfl, m9⟩
  generalize bs (leBytes 1 x) = b1 at *
  have m09 := (m07.trans m8).trans m9
  clear m07 m8 m9
  go_wp2_with fail
  refine (wU16 x _ (by rw [IntKind.wrap_u16]) _).mono ?_; rintro e w10 ⟨rfl, m10⟩
  go_wp2_with fail
  refine (rnum_any x 2 _ rfl _ hx (by omega)).mono ?_; rintro e w11 ⟨rfl, m11⟩
  generalize bs (leBytes 2 x) = b2 at *
  have m011 := (m09.trans m10).trans m11
  clear m09 m10 m11
  go_wp2_with fail
  refine (wU32 x _ rfl _).mono ?_; rintro e w12 ⟨rfl, m12⟩
  go_wp2_with fail
  refine (rnum_any x 4 _ rfl _ hx (by omega)).mono ?_; rintro e w13 ⟨rfl, m13⟩
  generalize bs (leBytes 4 x) = b4 at *
  have m013 := (m011.trans m12).trans m13
  clear m011 m12 m13
  go_wp2_with fail
  refine (wU64_x x _ hx).mono ?_; rintro e w14 ⟨rfl, m14⟩
  go_wp2_with fail
  refine (rnum_any x 8 _ rfl _ hx (by omega)).mono ?_; rintro e w15 ⟨rfl, m15⟩
  generalize bs (leBytes 8 x) = b8 at *
  go_wp2_with fail
  refine (alive_any _).mono ?_; rintro e w16 ⟨rfl, m16⟩
  go_wp2
  go_ret
  exact ⟨rfl, ((m013.trans m14).trans m15).trans m16⟩

theorem contract (H : Type) (enc : TypeId × Value → H) (W : World) (base : Nat) (args : Array Value) (ds gs : List (DataW H)) (before : List MemPlace)
    (hval : ∀ (j : Nat) t v, Try.f5.params[j]? = some t → args[j]? = some v → Value.okWide Try.prog W .any base t v)
    (hW : DataW.Whole enc Try.prog Try.f5.params.toList Rows.codeWritesSpec.vars false W args.toList ds gs before) :
    Calls Try.prog 5 args W fun e W' => ∃ v, e = .returned v ∧ Rows.codeWritesSpec.post enc Try.prog Try.f5 false true false false W args v W' := by
  have hW' := hW
  obtain ⟨p, q, hA0, hV, rfl, hfz, hnd⟩ := hW
  have hA : DataW.TrodAll enc Try.prog W 0 (fun _ => true) true Try.f5.params.toList args.toList ds p := hA0
  rw [Try.params5] at hA hval
  obtain ⟨v0, vs0, d0, ds0, p0, q0, hargs, rfl, rfl, h0, r0⟩ := trodAll_cons hA
  obtain ⟨v1, vs1, d1, ds1, p1, q1, rfl, rfl, rfl, h1, r1⟩ := trodAll_cons r0
  obtain ⟨v2, vs2, d2, ds2, p2, q2, rfl, rfl, rfl, h2, r2⟩ := trodAll_cons r1
  obtain ⟨v3, vs3, d3, ds3, p3, q3, rfl, rfl, rfl, h3, r3⟩ := trodAll_cons r2
  obtain ⟨rfl, rfl, rfl⟩ := trodAll_nil r3
  obtain rfl : args = #[v0, v1, v2, v3] := by cases args; simp_all
  obtain ⟨x, rfl, rfl, rfl, hx⟩ := open_int Try.underlying33 (hval 0 33 v0 rfl rfl) h0
  obtain ⟨s, rfl, rfl, rfl, hs⟩ := open_string Try.underlying9 (hval 1 9 v1 rfl rfl) h1
  obtain ⟨l, hsl, hls, hll⟩ := arg_strings (hval 2 29 v2 rfl rfl) h2
  obtain ⟨n, rfl, rfl, rfl, hn⟩ := open_int Try.underlying3 (hval 3 3 v3 rfl rfl) h3
  obtain ⟨y, rfl, hy⟩ := u64_of hx
  have hn2 := i64_of hn
  obtain ⟨a, c, rfl, _, _⟩ := hsl.form
  rw [List.length_map] at *
  clear hA0
  have hw : Calls Try.prog 5 #[.int .u64 y, .string s, .slice a l.length c, .int .i64 n] W fun e w' => e = .returned (.bool true) ∧ Mod (fun _ => False) W w' := by
    by_cases h : 300 < l.length ∨ 1048576 < n
    · exact walk_many y s a l.length c n W h
    · exact walk_few y s l a c n W hy hs hsl hls (fun x => h (.inl x)) (fun x => h (.inr x)) hn2.1
  refine hw.mono fun e W' ⟨he, hg⟩ => ?_
  subst he
  exact ⟨_, rfl, law_post hW' hg (by kernel_rfl) rfl rfl rfl rfl rfl⟩

set_option maxRecDepth 100000 in
theorem lifted (os : Os) (started : os.Started) (H : Type) (enc : TypeId × Value → H) :
    ReturnsInHanded {} Try.checked os 5 .any (Rows.codeWritesSpec.pre6 enc Try.prog Try.f5 Rows.codeWritesRow.domain false) (Rows.codeWritesSpec.post enc Try.prog Try.f5 false true false false) := by
  refine returnsInHanded_of_change (C := Try.checked) own_knob started (by kernel_rfl) Try.func5
    (ChangeSpec.witness6 (enc := enc) (C := Try.checked) false ⟨#[], #[.int .u64 0, .string .empty, .slice none 0 0, .int .i64 0], []⟩ 8 (by kernel_rfl) (by kernel_rfl) (by kernel_rfl) (by kernel_rfl)) ?_
  intro W base args ds gs before hval hW _ _
  exact contract H enc W base args ds gs before hval hW

theorem proved : Rows.CodeWritesSaid :=
  OpenClaim.holds_of_wide 5 Try.f5 rfl rfl rfl rfl rfl rfl rfl ⟨rfl, rfl, rfl, rfl, rfl⟩ rfl rfl rfl rfl rfl (by kernel_rfl) Try.func5 (by kernel_rfl)
    (of_decide_eq_true (by kernel_rfl)) (by unfold Func.isWrapper; first | (rw [if_pos (by decide +kernel)]; kernel_rfl) | (rw [if_neg (by decide +kernel)]; exact ⟨rfl, rfl⟩))
    (fun os started H enc _ => lifted os started H enc)
end Go.Proofs.Ythibakgnddmlfaa.codeWrites
