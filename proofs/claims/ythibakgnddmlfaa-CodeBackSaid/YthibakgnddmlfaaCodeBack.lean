/-
  PROVED HERE: for every uint64 x, strings s and rest, list of strings l and int n the law CodeBack returns true: what was written is read, whatever stands behind it; padded texts come back, of any room; the arguments read afterwards as they did. No conditions.
-/
import Derived.Test.YthibakgnddmlfaaLawKit
import Derived.Test.YthibakgnddmlfaaSame
import Derived.Test.YthibakgnddmlfaaPBack
import Derived.SizedLaws
namespace Go.Proofs.Ythibakgnddmlfaa.codeBack
open Go.ChangeShapes Go.WideShapes Go.ChangeAt Go.RowKit
open Go.ChangeMaps (open_string shut_string)

set_option maxHeartbeats 1000000 in
theorem walk_many (x : Nat) (s : ByteArray) (a : Option Addr) (m c : Nat) (n : Int) (rest : ByteArray) (w : World) (h : 300 < m) :
    Calls Try.prog 8 #[.int .u64 x, .string s, .slice a m c, .int .i64 n, .string rest] w fun e w' => e = .returned (.bool true) ∧ Mod (fun _ => False) w w' := by
  go_enter Try.func8, Try.ntmps8
  go_wp2_with fail
  refine (alive_any _).mono ?_; rintro e w5 ⟨rfl, m5⟩
  go_wp2
  go_ret
  exact ⟨rfl, m5⟩

set_option maxHeartbeats 1000000 in
theorem walk_long (x : Nat) (s : ByteArray) (l : List ByteArray) (a : Option Addr) (c : Nat) (n : Int) (rest : ByteArray) (w : World) (hs : s.size ≤ maxLen) (hsl : SlAt w (fun _ => True) (.slice a l.length c) (l.map Value.string)) (hls : ∀ s ∈ l, s.size ≤ maxLen) (h1 : ¬ 300 < l.length)
    (h : (wText s).2 ≠ 0 ∨ (wTexts l).2 ≠ 0) :
    Calls Try.prog 8 #[.int .u64 x, .string s, .slice a l.length c, .int .i64 n, .string rest] w fun e w' => e = .returned (.bool true) ∧ Mod (fun _ => False) w w' := by
  have HS : Hid (∀ w', Mod (fun _ => False) w w' → SlAt w' (fun _ => True) (.slice a l.length c) (l.map Value.string)) := fun w' hm => hsl.mod hm (fun _ _ _ x => x)
  have hll : l.length ≤ maxLen := by unfold maxLen; omega
  clear hsl
  have key : ∀ (b1 b2 : Bool), ((wText s).2 != 0) = b1 → ((wTexts l).2 != 0) = b2 → (b1 || b2) = true → Calls Try.prog 8 #[.int .u64 x, .string s, .slice a l.length c, .int .i64 n, .string rest] w fun e w' => e = .returned (.bool true) ∧ Mod (fun _ => False) w w' := by
    intro b1 b2 hb1 hb2 hb
    cases b1 <;> cases b2 <;> first | cases hb | skip
    all_goals
      go_enter Try.func8, Try.ntmps8
      go_wp2_with fail
      refine (text_w s _ hs).mono ?_; rintro e w1 ⟨rfl, m1⟩
      go_wp2_with fail
      refine (texts_w l _ _ (HS.out _ m1) hls hll).mono ?_; rintro e w2 ⟨rfl, m2⟩
      go_wp2_with fail
      refine (alive_any _).mono ?_; rintro e w5 ⟨rfl, m5⟩
      go_wp2
      go_ret
      exact ⟨rfl, (m1.trans m2).trans m5⟩
  refine key _ _ rfl rfl ?_
  rcases h with h | h
  · simp [h]
  · simp [h]

set_option maxHeartbeats 4000000 in
theorem walk_few (x : Nat) (s : ByteArray) (l : List ByteArray) (a : Option Addr) (c : Nat) (n : Int) (rest : ByteArray) (w : World) (hx : x < 18446744073709551616) (hs : s.size ≤ 65535) (hsl : SlAt w (fun _ => True) (.slice a l.length c) (l.map Value.string)) (hls : ∀ s ∈ l, s.size ≤ 65535) (h1 : ¬ 300 < l.length)
    (hr : rest.size ≤ 140737488351232) :
    Calls Try.prog 8 #[.int .u64 x, .string s, .slice a l.length c, .int .i64 n, .string rest] w fun e w' => e = .returned (.bool true) ∧ Mod (fun _ => False) w w' := by
  have HS : Hid (∀ w', Mod (fun _ => False) w w' → SlAt w' (fun _ => True) (.slice a l.length c) (l.map Value.string)) := fun w' hm => hsl.mod hm (fun _ _ _ x => x)
  have hll : l.length ≤ maxLen := by unfold maxLen; omega
  have hT : Hid (wText s = (bs (txt s), 0)) := wText_ok (by omega)
  have hTs : Hid (wTexts l = (bs (leBytes 2 l.length ++ txts l), 0)) := wTexts_txts (by omega) hls
  have hls2 : ∀ s ∈ l, s.size ≤ maxLen := fun s hs => by have := hls s hs; unfold maxLen; omega
  have hsm : s.size ≤ maxLen := by unfold maxLen; omega
  clear hsl
  obtain ⟨L, p1, p2, p3, p4, p5, p6, e0, e1, e2, e3, e4, e5, e6, ⟨q1, q2, q3, q4, q5, q6⟩, e7, e8⟩ := chain x s l rest hx hs (by omega) hls
  have E0 := Lib.hid e0; have E1 := Lib.hid e1; have E2 := Lib.hid e2; have E3 := Lib.hid e3; have E4 := Lib.hid e4; have E5 := Lib.hid e5; have E6 := Lib.hid e6; have E7 := Lib.hid e7; have E8 := Lib.hid e8
  clear e0 e1 e2 e3 e4 e5 e6 e7 e8
  have HE : Hid (Rd.end_ ⟨bs L, p6, 0⟩ = if rest.toList.isEmpty then 0 else 51) := by
    show _ = _
    unfold Rd.end_
    rw [if_neg (by simp)]
    have hz : (bs L).size = L.length := rfl
    have hi : rest.toList.isEmpty = decide (rest.size = 0) := isEmpty_size rest
    rw [hi]
    simp only [hz, E8.out]
    by_cases h0 : rest.size = 0
    · rw [if_neg (by omega), decide_eq_true h0]; rfl
    · rw [if_pos (by omega), decide_eq_false h0]; rfl
  obtain ⟨ee, hee⟩ : ∃ ee, rest.toList.isEmpty = ee := ⟨_, rfl⟩
  rw [hee] at HE
  -- sizes
  have z8 : (bs (leBytes 8 x)).size = 8 := leBytes_length 8 x
  have z1 : (bs (leBytes 1 x)).size = 1 := leBytes_length 1 x
  have z4 : (bs (leBytes 4 x)).size = 4 := leBytes_length 4 x
  have z2 : (bs (leBytes 2 x)).size = 2 := leBytes_length 2 x
  have zt : (bs (txt s)).size ≤ 65537 := by rw [bs_size, txt_length]; omega
  have zts : (bs (leBytes 2 l.length ++ txts l)).size ≤ 30000000 := by
    rw [bs_size, List.length_append, leBytes_length]
    have := txts_length l hls
    omega
  go_enter Try.func8, Try.ntmps8
  go_wp2_with fail
  refine (text_w s _ hsm).mono ?_; rintro e w1 ⟨rfl, m1⟩
  rw [hT.out]
  go_wp2_with fail
  refine (texts_w l _ _ (HS.out _ m1) hls2 hll).mono ?_; rintro e w2 ⟨rfl, m2⟩
  rw [hTs.out]
  have m02 := m1.trans m2
  clear m1 m2
  go_wp2_with fail
  refine (wU64_x x _ hx).mono ?_; rintro e w3 ⟨rfl, m3⟩
  go_wp2_with fail
  refine (wU8 x _ rfl _).mono ?_; rintro e w4 ⟨rfl, m4⟩
  go_wp2_with fail
  refine (wU32 x _ rfl _).mono ?_; rintro e w5 ⟨rfl, m5⟩
  go_wp2_with fail
  refine (wU16 x _ (by rw [IntKind.wrap_u16]) _).mono ?_; rintro e w6 ⟨rfl, m6⟩
  have m06 := (((m02.trans m3).trans m4).trans m5).trans m6
  clear m02 m3 m4 m5 m6
  have HSz : Hid ((bs L).size ≤ maxLen) := by
    show _ ≤ _
    rw [← E0.out]
    simp only [ByteArray.size_append]
    unfold maxLen
    omega
  have HLn : Hid (∀ p, p ≤ L.length → p ≤ (bs L).size) := fun p h => h
  go_wp2_with fail
  rw [E0.out]
  refine (new_any _ _).mono ?_
  rintro e w7 ⟨rfl, rfl⟩
  have H7 : Hid ((w6.alloc (rdO ⟨bs L, 0, 0⟩)).heap[w6.heap.size]? = some (rdO ⟨bs L, 0, 0⟩)) := new_at _ _
  have m07 : Mod (fun _ => False) w (w6.alloc (rdO ⟨bs L, 0, 0⟩)) := m06.alloc _
  generalize w6.alloc (rdO ⟨bs L, 0, 0⟩) = w7 at *
  have hb : w.heap.size ≤ w6.heap.size := m06.size
  generalize w6.heap.size = b at *
  clear m06
  clear z8 z1 z4 z2 zt zts
  go_wp2_with fail
  refine (U64_any b _ _ H7.out HSz.out (Nat.zero_le _)).mono ?_
  rw [E1.out]; rintro e w8 ⟨rfl, h8, m8⟩
  have H8 := Lib.hid h8; clear h8
  have m08 : Mod (fun _ => False) w w8 := m07.trans' m8 (fun k hk e => by omega)
  clear m8 m07 H7
  go_wp2_with fail
  refine (text_any b _ _ H8.out HSz.out (HLn.out _ q1)).mono ?_
  rw [E2.out]; rintro e w9 ⟨rfl, h9, m9⟩
  have H9 := Lib.hid h9; clear h9
  have m09 : Mod (fun _ => False) w w9 := m08.trans' m9 (fun k hk e => by omega)
  clear m9 m08 H8
  go_wp2_with fail
  refine (U8_any b _ _ H9.out HSz.out (HLn.out _ q2)).mono ?_
  rw [E3.out]; rintro e w10 ⟨rfl, h10, m10⟩
  have H10 := Lib.hid h10; clear h10
  have m010 : Mod (fun _ => False) w w10 := m09.trans' m10 (fun k hk e => by omega)
  clear m10 m09 H9
  go_wp2_with fail
  refine (texts_any b _ 300 _ H10.out HSz.out (HLn.out _ q3)).mono ?_
  rw [E4.out]; rintro e w11 ⟨vt, rfl, hv, h11, m11⟩
  have H11 := Lib.hid h11; clear h11
  have m011 : Mod (fun _ => False) w w11 := m010.trans' m11 (fun k hk e => by omega)
  have HV := Lib.hid hv; clear hv
  clear m11 m010 H10
  go_wp2_with fail
  refine (same_any vt _ l _ (HV.out.imp (fun _ _ => trivial)) (HS.out _ m011) hll).mono ?_
  rintro e w12 ⟨rfl, nd, rfl⟩
  have H12 : Hid ((w11.drewN nd).heap[b]? = some (rdO ⟨bs L, p4, 0⟩)) := H11.out
  have m012 : Mod (fun _ => False) w (w11.drewN nd) := m011.drewN _
  generalize w11.drewN nd = w12 at *
  clear m011 HV H11
  go_wp2_with fail
  refine (U32_any b _ _ H12.out HSz.out (HLn.out _ q4)).mono ?_
  rw [E5.out]; rintro e w13 ⟨rfl, h13, m13⟩
  have H13 := Lib.hid h13; clear h13
  have m013 : Mod (fun _ => False) w w13 := m012.trans' m13 (fun k hk e => by omega)
  clear m13 m012 H12
  go_wp2_with fail
  refine (U16_any b _ _ H13.out HSz.out (HLn.out _ q5)).mono ?_
  rw [E6.out]; rintro e w14 ⟨rfl, h14, m14⟩
  have H14 := Lib.hid h14; clear h14
  have m014 : Mod (fun _ => False) w w14 := m013.trans' m14 (fun k hk e => by omega)
  clear m14 m013 H13
  have hw16 : IntKind.u16.wrap (x : Int) = (x : Int) % 65536 := by rw [IntKind.wrap_u16]
  go_wp2_with fail
  refine (fault_any b _ _ H14.out).mono ?_
  rintro e w15 ⟨rfl, rfl⟩
  go_wp2_with fail
  refine (rest_any b _ _ H14.out HSz.out (HLn.out _ q6)).mono ?_
  rintro e w15 ⟨rfl, nd2, rfl⟩
  rw [E7.out]
  have H15 : Hid ((w14.drewN nd2).heap[b]? = some (rdO ⟨bs L, p6, 0⟩)) := H14.out
  have m015 : Mod (fun _ => False) w (w14.drewN nd2) := m014.drewN _
  generalize w14.drewN nd2 = w15 at *
  clear m014 H14
  obtain ⟨hn1, hn2⟩ := and255 n
  have HP : Hid (∀ N : Int, N = 4 + (s.size : Int) + bits BinOp.and IntKind.i64 n 255 → ∃ k, wPad s N = (bs (leBytes 4 s.size ++ s.data.toList ++ List.replicate k 0), 0) ∧ ((bs (leBytes 4 s.size ++ s.data.toList ++ List.replicate k 0)).size : Int) = N) := by
    rintro N rfl
    refine ⟨(4 + (s.size : Int) + bits BinOp.and IntKind.i64 n 255).toNat - 4 - s.size, ?_, ?_⟩
    · unfold wPad
      rw [if_neg (by omega), if_neg (by omega)]
    · rw [bs_size, List.length_append, List.length_append, leBytes_length, Array.length_toList, List.length_replicate]
      have : s.data.size = s.size := rfl
      omega
  go_wp2_with fail
  obtain ⟨k, hk1, hk2⟩ := HP.out _ rfl
  refine (pad_w s _ _ hsm (by omega) (by omega)).mono ?_
  rw [hk1]
  rintro e w16 ⟨rfl, m16⟩
  clear hk1 HP
  have H16 : Hid (w16.heap[b]? = some (rdO ⟨bs L, p6, 0⟩)) := (m16.block _ (lt_of H15.out) (fun x => x)).trans H15.out
  have m016 := m015.trans m16
  have hU : Hid (unpad (bs (leBytes 4 s.size ++ s.data.toList ++ List.replicate k 0)) = (s, 0)) := unpad_pad s k (by omega)
  have hpz : (bs (leBytes 4 s.size ++ s.data.toList ++ List.replicate k 0)).size ≤ maxLen := by unfold maxLen; omega
  generalize bs (leBytes 4 s.size ++ s.data.toList ++ List.replicate k 0) = pt at *
  have hk3 : ((pt.size : Int) == 4 + (s.size : Int) + bits BinOp.and IntKind.i64 n 255) = true := by rw [beq_iff_eq]; exact hk2
  clear hk2 m015 m16 H15
  go_wp2_with fail
  refine (unpad_w pt _ hpz).mono ?_
  rw [hU.out]
  rintro e w17 ⟨rfl, m17⟩
  have H17 : Hid (w17.heap[b]? = some (rdO ⟨bs L, p6, 0⟩)) := (m17.block _ (lt_of H16.out) (fun x => x)).trans H16.out
  have m017 := m016.trans m17
  clear m016 m17 H16
  go_wp2_with fail
  refine (end_any b _ _ H17.out HSz.out (HLn.out _ q6)).mono ?_
  rw [HE.out]
  rintro e w18 ⟨rfl, nd3, rfl⟩
  cases ee
  all_goals
    go_wp2_with fail
    refine (alive_any _).mono ?_
    rintro e w19 ⟨rfl, m19⟩
    go_wp2
    go_ret
    exact ⟨rfl, (m017.drewN nd3).trans m19⟩

theorem contract (H : Type) (enc : TypeId × Value → H) (W : World) (base : Nat) (args : Array Value) (ds gs : List (DataW H)) (before : List MemPlace)
    (hval : ∀ (j : Nat) t v, Try.f8.params[j]? = some t → args[j]? = some v → Value.okWide Try.prog W .any base t v)
    (hW : DataW.Whole enc Try.prog Try.f8.params.toList Rows.codeBackSpec.vars false W args.toList ds gs before)
    (hsz : (DataW.weightsEach Try.prog (Try.f8.params.toList ++ Rows.codeBackSpec.plain.varTypes Try.prog) (ds ++ gs)).all (· ≤ reachBytes) = true) :
    Calls Try.prog 8 args W fun e W' => ∃ v, e = .returned v ∧ Rows.codeBackSpec.post enc Try.prog Try.f8 false true false false W args v W' := by
  have hW' := hW
  obtain ⟨p, q, hA0, hV, rfl, hfz, hnd⟩ := hW
  have hA : DataW.TrodAll enc Try.prog W 0 (fun _ => true) true Try.f8.params.toList args.toList ds p := hA0
  rw [Try.params8] at hA hval hsz
  obtain ⟨v0, vs0, d0, ds0, p0, q0, hargs, rfl, rfl, h0, r0⟩ := trodAll_cons hA
  obtain ⟨v1, vs1, d1, ds1, p1, q1, rfl, rfl, rfl, h1, r1⟩ := trodAll_cons r0
  obtain ⟨v2, vs2, d2, ds2, p2, q2, rfl, rfl, rfl, h2, r2⟩ := trodAll_cons r1
  obtain ⟨v3, vs3, d3, ds3, p3, q3, rfl, rfl, rfl, h3, r3⟩ := trodAll_cons r2
  obtain ⟨v4, vs4, d4, ds4, p4, q4, rfl, rfl, rfl, h4, r4⟩ := trodAll_cons r3
  obtain ⟨rfl, rfl, rfl⟩ := trodAll_nil r4
  obtain rfl : args = #[v0, v1, v2, v3, v4] := by cases args; simp_all
  obtain ⟨x, rfl, rfl, rfl, hx⟩ := open_int Try.underlying33 (hval 0 33 v0 rfl rfl) h0
  obtain ⟨s, rfl, rfl, rfl, hs⟩ := open_string Try.underlying9 (hval 1 9 v1 rfl rfl) h1
  obtain ⟨l, hsl, hls, hll⟩ := arg_strings (hval 2 29 v2 rfl rfl) h2
  obtain ⟨n, rfl, rfl, rfl, hn⟩ := open_int Try.underlying3 (hval 3 3 v3 rfl rfl) h3
  obtain ⟨rest, rfl, rfl, rfl, hr⟩ := open_string Try.underlying9 (hval 4 9 v4 rfl rfl) h4
  obtain ⟨y, rfl, hy⟩ := u64_of hx
  obtain ⟨a, c, rfl, _, _⟩ := hsl.form
  rw [List.length_map] at *
  clear hA0
  have hz : rest.size ≤ 140737488351232 := by
    have := sized_string hsz (j := 4) (t := 9) (bytes := rest.data.toList) rfl rfl
    rw [Array.length_toList] at this
    exact this
  have hw : Calls Try.prog 8 #[.int .u64 y, .string s, .slice a l.length c, .int .i64 n, .string rest] W fun e w' => e = .returned (.bool true) ∧ Mod (fun _ => False) W w' := by
    by_cases h300 : 300 < l.length
    · exact walk_many y s a l.length c n rest W h300
    · by_cases hl1 : (wText s).2 ≠ 0 ∨ (wTexts l).2 ≠ 0
      · exact walk_long y s l a c n rest W hs hsl hls h300 hl1
      · have g1 : s.size ≤ 65535 := by
          rcases Nat.lt_or_ge 65535 s.size with h | h
          · exact absurd (Or.inl (by rw [wText_long h]; decide)) hl1
          · exact h
        have g2 : ∀ s ∈ l, s.size ≤ 65535 := by
          cases hg : wTextsGo l (leBytes 2 l.length) with
          | none => exact absurd (Or.inr (by rw [wTexts_none (by omega) hg]; decide)) hl1
          | some aa => exact (wTextsGo_eq l _ _ hg).2
        exact walk_few y s l a c n rest W hy g1 hsl g2 h300 hz
  refine hw.mono fun e W' ⟨he, hg⟩ => ?_
  subst he
  exact ⟨_, rfl, law_post hW' hg (by kernel_rfl) rfl rfl rfl rfl rfl⟩

set_option maxRecDepth 100000 in
theorem lifted (os : Os) (started : os.Started) (H : Type) (enc : TypeId × Value → H) :
    ReturnsInHanded {} Try.checked os 8 .any (Rows.codeBackSpec.pre6 enc Try.prog Try.f8 Rows.codeBackRow.domain false) (Rows.codeBackSpec.post enc Try.prog Try.f8 false true false false) := by
  refine returnsInHanded_of_change_sized (C := Try.checked) own_knob started (by kernel_rfl) Try.func8
    (ChangeSpec.witness6 (enc := enc) (C := Try.checked) false ⟨#[], #[.int .u64 0, .string .empty, .slice none 0 0, .int .i64 0, .string .empty], []⟩ 8 (by kernel_rfl) (by kernel_rfl) (by kernel_rfl) (by kernel_rfl)) ?_
  intro W base args ds gs before hval hW _ hsz _
  exact contract H enc W base args ds gs before hval hW hsz

theorem proved : Rows.CodeBackSaid :=
  OpenClaim.holds_of_wide 8 Try.f8 rfl rfl rfl rfl rfl rfl rfl ⟨rfl, rfl, rfl, rfl, rfl⟩ rfl rfl rfl rfl rfl (by kernel_rfl) Try.func8 (by kernel_rfl)
    (of_decide_eq_true (by kernel_rfl)) (by unfold Func.isWrapper; first | (rw [if_pos (by decide +kernel)]; kernel_rfl) | (rw [if_neg (by decide +kernel)]; exact ⟨rfl, rfl⟩))
    (fun os started H enc _ => lifted os started H enc)
end Go.Proofs.Ythibakgnddmlfaa.codeBack
