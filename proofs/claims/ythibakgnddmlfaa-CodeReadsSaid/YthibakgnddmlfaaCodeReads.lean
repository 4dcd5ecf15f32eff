/-
  PROVED HERE: for every string s and every list of steps l the law CodeReads returns true: any bytes, read by any calls, are read by package code as by the document, the first fault stays, and the place with it; the arguments read afterwards as they did. No conditions.
-/
import Derived.Test.YthibakgnddmlfaaLawKit
import Derived.Test.YthibakgnddmlfaaStep
import Derived.Test.YthibakgnddmlfaaRegion
import Derived.Deep.SlicePairs
namespace Go.Proofs.Ythibakgnddmlfaa.codeReads
open Go.ChangeShapes Go.WideShapes Go.ChangeAt Go.RowKit
open Go.ChangeMaps (open_string shut_string)

theorem step_ok (r : Rd) (d n : Int) (h : r.at_ ≤ r.s.size) : (r.step d n).s = r.s ∧ (r.step d n).at_ ≤ r.s.size := by
  have hs : (r.step d n).s = r.s := by
    unfold Rd.step
    repeat' split
    all_goals first | exact Rd.num_s _ _ | exact Rd.text_s _ | exact Rd.texts_s _ _ | exact Rd.bytes_s _ _ | rfl
  refine ⟨hs, ?_⟩
  have : (r.step d n).at_ ≤ (r.step d n).s.size := by
    unfold Rd.step
    repeat' split
    all_goals first | exact Rd.num_at _ _ h | exact Rd.text_at _ h | exact Rd.texts_at _ _ h | exact Rd.bytes_at _ _ h | exact h
  rwa [hs] at this

theorem step_any (b x : Nat) (r : Rd) (d n : Int) (w : World) (hb : w.heap[b]? = some (rdO r)) (hx : w.heap[x]? = some (rrO r)) (hbx : b ≠ x) (hs : r.s.size ≤ maxLen) (hat : r.at_ ≤ r.s.size) :
    Calls Try.prog 24 #[.pointer (some ⟨b, 0, none⟩), .pointer (some ⟨x, 0, none⟩), .agg #[.int .i64 d, .int .i64 n]] w (StepPost b x w (r.step d n)) := by
  unfold Rd.step
  by_cases h0 : d = 0
  · rw [if_pos h0]; subst h0; exact step0 b x r n w hb hx hbx hs hat
  rw [if_neg h0]
  by_cases h1 : d = 1
  · rw [if_pos h1]; subst h1; exact step1 b x r n w hb hx hbx hs hat
  rw [if_neg h1]
  by_cases h2 : d = 2
  · rw [if_pos h2]; subst h2; exact step2 b x r n w hb hx hbx hs hat
  rw [if_neg h2]
  by_cases h3 : d = 3
  · rw [if_pos h3]; subst h3; exact step3 b x r n w hb hx hbx hs hat
  rw [if_neg h3]
  by_cases h4 : d = 4
  · rw [if_pos h4]; subst h4; exact step4 b x r n w hb hx hbx hs hat
  rw [if_neg h4]
  by_cases h5 : d = 5
  · rw [if_pos h5]; subst h5; exact step5 b x r n w hb hx hbx hs hat
  rw [if_neg h5]
  by_cases h6 : d = 6
  · rw [if_pos h6]; subst h6; exact step6 b x r n w hb hx hbx hs hat
  rw [if_neg h6]
  exact step7 b x r d n w hb hx hs hat h0 h1 h2 h3 h4 h5 h6

set_option maxHeartbeats 1000000 in
theorem walk (s : ByteArray) (a : Option Addr) (len c : Nat) (D N : Nat → Int) (w : World) (hs : s.size ≤ maxLen)
    (hl : ∀ i, i < len → ∃ g off, a = some ⟨g, off, none⟩ ∧ g < w.heap.size ∧ w.cell? ⟨g, off + i * 2, none⟩ = some (.int .i64 (D i)) ∧ w.cell? ⟨g, off + i * 2 + 1, none⟩ = some (.int .i64 (N i))) :
    Calls Try.prog 6 #[.string s, .slice a len c] w fun e w' => e = .returned (.bool true) ∧ Mod (fun _ => False) w w' := by
  have HL := Lib.hid hl; clear hl
  go_enter Try.func6, Try.ntmps6
  go_wp2_with fail
  refine (new_any s _).mono ?_
  rintro e w0 ⟨rfl, rfl⟩
  go_wp2
  have HB : Hid (((w.alloc (rdO ⟨s, 0, 0⟩)).alloc (rrO ⟨s, 0, 0⟩)).heap[w.heap.size]? = some (rdO ⟨s, 0, 0⟩)) := alloc_keep (new_at _ _)
  have HX : Hid (((w.alloc (rdO ⟨s, 0, 0⟩)).alloc (rrO ⟨s, 0, 0⟩)).heap[w.heap.size + 1]? = some (rrO ⟨s, 0, 0⟩)) := by
    have := new_at (w.alloc (rdO ⟨s, 0, 0⟩)) (rrO ⟨s, 0, 0⟩)
    rwa [World.size_alloc] at this
  have m0 : Mod (fun _ => False) w ((w.alloc (rdO ⟨s, 0, 0⟩)).alloc (rrO ⟨s, 0, 0⟩)) := ((Mod.refl _ _).alloc _).alloc _
  generalize hB : w.heap.size = B at *
  have hB1 : w.heap.size ≤ B := by omega
  have hB2 : B ≤ w.heap.size := by omega
  clear hB
  go_loopw [7] (fun i wr => ∃ (k : Nat) (rk : Rd), k ≤ len ∧ k ≤ 100 ∧ i = .int .i64 k ∧ Hid (wr.heap[B]? = some (rdO rk)) ∧ Hid (wr.heap[B + 1]? = some (rrO rk)) ∧ Hid (rk.s = s ∧ rk.at_ ≤ s.size) ∧ Mod (fun _ => False) w wr) (fun i _ => len - (intOf i).toNat)
  case atStart => exact ⟨0, _, Nat.zero_le _, Nat.zero_le _, rfl, HB, HX, ⟨rfl, Nat.zero_le _⟩, m0⟩
  case round =>
    obtain ⟨k, rk, hk, hk2, rfl, HBk, HXk, HR, mr⟩ := hrel
    by_cases hlt : k < len
    · by_cases hlt2 : k < 100
      · have t1 : decide (k < len) = true := by simp; omega
        have t2 : decide ((k : Int) < 100) = true := by simp; omega
        obtain ⟨g, off, ha, hg0, hc1, hc2⟩ := HL.out k hlt
        have hg : g < w.heap.size := by omega
        have d1 : wr.cell? ⟨g, off + k * 2, none⟩ = some (.int .i64 (D k)) := (World.cell?_of_block (a := ⟨g, off + k * 2, none⟩) (mr.block g hg (fun x => x))).trans hc1
        have d2 : wr.cell? ⟨g, off + k * 2 + 1, none⟩ = some (.int .i64 (N k)) := (World.cell?_of_block (a := ⟨g, off + k * 2 + 1, none⟩) (mr.block g hg (fun x => x))).trans hc2
        clear hc1 hc2
        subst ha
        have HSt : ∃ r1 : Rd, Hid ((r1.s = s ∧ r1.at_ ≤ s.size) ∧ ∀ w', w'.heap[B]? = some (rdO rk) → w'.heap[B + 1]? = some (rrO rk) →
            Calls Try.prog 24 #[.pointer (some ⟨B, 0, none⟩), .pointer (some ⟨B + 1, 0, none⟩), .agg #[.int .i64 (D k), .int .i64 (N k)]] w' (StepPost B (B + 1) w' r1)) :=
          ⟨rk.step (D k) (N k), ⟨by
            have := step_ok rk (D k) (N k) (by rw [HR.out.1]; exact HR.out.2)
            rw [HR.out.1] at this
            exact this, fun w' h1 h2 => step_any _ _ rk (D k) (N k) w' h1 h2 (by omega) (by rw [HR.out.1]; exact hs) (by rw [HR.out.1]; exact HR.out.2)⟩⟩
        obtain ⟨⟨s1, a1, f1⟩, HSt⟩ := HSt
        have hs1 : s1 = s := HSt.out.1.1
        subst hs1
        have ha1 : a1 ≤ s1.size := HSt.out.1.2
        have hwz : w.heap.size ≤ wr.heap.size := mr.size
        have hz1 : s1.size ≤ 9223372036854775807 := by unfold maxLen at hs; omega
        obtain ⟨q, hq⟩ : ∃ q : ByteArray, s1.extract a1 s1.size = q := ⟨_, rfl⟩
        have HQ := Lib.hid hq
        go_wp2
        refine wp_region_any (by kernel_rfl) ?_
        change wpAny _ _ _ _ _ _ _ (World.drew _)
        refine wpAny_take (i := 0) (v := ?_) rfl (by kernel_rfl) (by kernel_rfl) (by kernel_rfl) (fun _ _ _ h => h) (Or.inl ⟨by rfl, ?_⟩) ?_
        rotate_left
        · intro w; go_simp
          all_goals with_reducible rfl
        refine wpAny_take (i := 1) (v := ?_) rfl (by kernel_rfl) (by kernel_rfl) (by kernel_rfl) (fun _ _ _ h => h) (Or.inl ⟨by rfl, ?_⟩) ?_
        rotate_left
        · intro w; go_simp
          all_goals with_reducible rfl
        refine wpAny_take (i := 2) (v := ?_) rfl (by kernel_rfl) (by kernel_rfl) (by kernel_rfl) (fun _ _ _ h => h) (Or.inl ⟨by rfl, ?_⟩) ?_
        rotate_left
        · intro w; go_simp
          all_goals with_reducible rfl
        refine wpAny_take (i := 3) (v := ?_) rfl (by kernel_rfl) (by kernel_rfl) (by kernel_rfl) (fun _ _ _ h => h) (Or.inl ⟨by rfl, ?_⟩) ?_
        rotate_left
        · intro w; go_simp
          all_goals with_reducible rfl
        refine wpAny_take (i := 4) (v := ?_) rfl (by kernel_rfl) (by kernel_rfl) (by kernel_rfl) (fun _ _ _ h => h) (Or.inl ⟨by rfl, ?_⟩) ?_
        rotate_left
        · intro w; go_simp
          all_goals with_reducible rfl
        refine wpAny_ready (rs := [5]) (by kernel_rfl) (by simp) ?_
        refine AllReady.cons rfl (fun K hK => ?_) AllReady.nil
        go_simp
        refine hK _ _ ?_; clear hK K
        refine wpAny_ready (rs := [6]) (by kernel_rfl) (by simp) ?_
        refine AllReady.cons rfl (fun K hK => ?_) AllReady.nil
        go_simp
        refine (HSt.out.2 _ ?_ ?_).mono ?_
        · exact HBk.out
        · exact HXk.out
        rintro e w1 ⟨rfl, h1, h2, m1⟩
        have x1 : w1.cell? ⟨B + 1, 1, none⟩ = some (.int .i64 a1) := (cell_of h2 1).trans rfl
        have x2 : w1.cell? ⟨B + 1, 2, none⟩ = some (.int .i64 f1) := (cell_of h2 2).trans rfl
        have H1 := Lib.hid h1; have H2 := Lib.hid h2; clear h1 h2
        refine hK _ _ ?_; clear hK K
        refine wpAny_tail 7 _ rfl (by kernel_rfl) (by kernel_rfl) (by kernel_rfl) ?_
        simp only [List.drop_succ_cons, List.drop_zero]
        repeat (go_big_quiet_step ((first | (go_at_call 25; exact quiet_same (at_any B ⟨s1, a1, f1⟩ _ H1.out)) | (go_at_call 26; exact Calls.quiet_of (rest_any B ⟨s1, a1, f1⟩ _ H1.out hs ha1)) | (go_at_call 27; exact quiet_same (fault_any B ⟨s1, a1, f1⟩ _ H1.out)) | (go_at_call 28; exact Calls.quiet_of (end_any B ⟨s1, a1, f1⟩ _ H1.out hs ha1)) | (go_at_call 29; exact Calls.quiet_of (rEnd (B + 1) ⟨s1, a1, f1⟩ _ H2.out hs)))))
        refine wpQuiet_nil ?_
        intro _ hw'
        obtain ⟨nq, hw''⟩ := hw'
        subst hw''
        all_goals
          go_wp2
          go_roundw
          case rel =>
            refine ⟨k + 1, ⟨s1, a1, f1⟩, by omega, by omega, by go_num, H1.out, H2.out, ⟨rfl, ha1⟩, ?_⟩
            exact ((mr.drew.trans' m1 (fun k hk e => by rcases e with e | e <;> omega)).drewN _)
          case measure => simp [intOf]; omega
      · have t1 : decide (k < len) = true := by simp; omega
        have t2 : decide ((k : Int) < 100) = false := by simp; omega
        go_wp2_with fail
        refine (alive_any _).mono ?_; rintro e w9 ⟨rfl, m9⟩
        go_wp2
        go_ret
        exact ⟨rfl, mr.trans m9⟩
    · have t1 : decide (k < len) = false := by simp; omega
      go_wp2_with fail
      refine (alive_any _).mono ?_; rintro e w9 ⟨rfl, m9⟩
      go_wp2
      go_ret
      exact ⟨rfl, mr.trans m9⟩

theorem arg_steps {H : Type} {enc : TypeId × Value → H} {W : World} {base : Nat} {v : Value} {d : DataW H} {ps : List MemPlace} (hval : Value.okWide Try.prog W .any base 45 v)
    (h : DataW.Trod enc Try.prog W 0 (fun _ => true) true 45 v d ps) : ∃ (a : Option Addr) (len cap : Nat) (D N : Nat → Int), v = .slice a len cap ∧
      ∀ i, i < len → ∃ g off, a = some ⟨g, off, none⟩ ∧ g < W.heap.size ∧ W.cell? ⟨g, off + i * 2, none⟩ = some (.int .i64 (D i)) ∧ W.cell? ⟨g, off + i * 2 + 1, none⟩ = some (.int .i64 (N i)) := by
  obtain ⟨a0, len, cap, rfl⟩ := okWide_slice Try.underlying45 hval
  obtain ⟨fuel, hf⟩ := h
  rcases Go.Deep.open_slice_pairs Try.underlying45 Try.underlying53 (by kernel_rfl) rfl rfl (by kernel_rfl) (by kernel_rfl) hf with ⟨hcs, hx⟩ | ⟨a, len', cap', m, n, V0, V1, D0, D1, P0, P1, hcs, _, hl, hm, hmm, hx, hi⟩
  · simp only [Value.cells, List.cons.injEq, and_true] at hcs
    injection hcs with e1 e2 e3
    exact ⟨a0, len, cap, fun _ => 0, fun _ => 0, rfl, fun i hi => absurd hi (by omega)⟩
  · simp only [Value.cells, List.cons.injEq, and_true] at hcs
    injection hcs with e1 e2 e3
    simp only [if_true] at hmm
    have hex : ∀ i, ∃ x y : Int, i < len → V0 i = .int .i64 x ∧ V1 i = .int .i64 y := by
      intro i
      by_cases h : i < len
      · obtain ⟨_, _, g0, g1⟩ := hi i (by omega)
        obtain ⟨x, hx, _⟩ := DataW.trod_int Try.underlying3 g0
        obtain ⟨y, hy, _⟩ := DataW.trod_int Try.underlying3 g1
        simp only [List.cons.injEq, and_true] at hx hy
        exact ⟨x, y, fun _ => ⟨hx, hy⟩⟩
      · exact ⟨0, 0, fun x => absurd x h⟩
    refine ⟨a0, len, cap, fun i => (hex i).choose, fun i => (hex i).choose_spec.choose, rfl, fun i h => ?_⟩
    have hv := (hex i).choose_spec.choose_spec h
    obtain ⟨c0, c1, _, _⟩ := hi i (by omega)
    have ha : a = ⟨a.block, a.off, none⟩ := by
      have h3 := addr_form (hi 0 (by omega)).1
      rwa [Nat.zero_mul] at h3
    refine ⟨a.block, a.off, by rw [e1, ← ha], by have := World.block_lt_of_cell? _ _ c0; rw [ha, add_plain] at this; exact this, ?_, ?_⟩
    · rw [ha, add_plain] at c0
      rw [← hv.1]; exact c0
    · rw [ha, add_plain] at c1
      rw [← hv.2]; exact c1

theorem contract (H : Type) (enc : TypeId × Value → H) (W : World) (base : Nat) (args : Array Value) (ds gs : List (DataW H)) (before : List MemPlace)
    (hval : ∀ (j : Nat) t v, Try.f6.params[j]? = some t → args[j]? = some v → Value.okWide Try.prog W .any base t v)
    (hW : DataW.Whole enc Try.prog Try.f6.params.toList Rows.codeReadsSpec.vars false W args.toList ds gs before) :
    Calls Try.prog 6 args W fun e W' => ∃ v, e = .returned v ∧ Rows.codeReadsSpec.post enc Try.prog Try.f6 false true false false W args v W' := by
  have hW' := hW
  obtain ⟨p, q, hA0, hV, rfl, hfz, hnd⟩ := hW
  have hA : DataW.TrodAll enc Try.prog W 0 (fun _ => true) true Try.f6.params.toList args.toList ds p := hA0
  rw [Try.params6] at hA hval
  obtain ⟨v0, vs0, d0, ds0, p0, q0, hargs, rfl, rfl, h0, r0⟩ := trodAll_cons hA
  obtain ⟨v1, vs1, d1, ds1, p1, q1, rfl, rfl, rfl, h1, r1⟩ := trodAll_cons r0
  obtain ⟨rfl, rfl, rfl⟩ := trodAll_nil r1
  obtain rfl : args = #[v0, v1] := by cases args; simp_all
  obtain ⟨s, rfl, rfl, rfl, hs⟩ := open_string Try.underlying9 (hval 0 9 v0 rfl rfl) h0
  obtain ⟨a, len, cap, D, N, rfl, hl⟩ := arg_steps (hval 1 45 v1 rfl rfl) h1
  clear hA0
  refine (walk s a len cap D N W hs hl).mono fun e W' ⟨he, hg⟩ => ?_
  subst he
  exact ⟨_, rfl, law_post hW' hg (by kernel_rfl) rfl rfl rfl rfl rfl⟩

set_option maxRecDepth 100000 in
theorem lifted (os : Os) (started : os.Started) (H : Type) (enc : TypeId × Value → H) :
    ReturnsInHanded {} Try.checked os 6 .any (Rows.codeReadsSpec.pre6 enc Try.prog Try.f6 Rows.codeReadsRow.domain false) (Rows.codeReadsSpec.post enc Try.prog Try.f6 false true false false) := by
  refine returnsInHanded_of_change (C := Try.checked) own_knob started (by kernel_rfl) Try.func6
    (ChangeSpec.witness6 (enc := enc) (C := Try.checked) false ⟨#[], #[.string .empty, .slice none 0 0], []⟩ 8 (by kernel_rfl) (by kernel_rfl) (by kernel_rfl) (by kernel_rfl)) ?_
  intro W base args ds gs before hval hW _ _
  exact contract H enc W base args ds gs before hval hW

theorem proved : Rows.CodeReadsSaid :=
  OpenClaim.holds_of_wide 6 Try.f6 rfl rfl rfl rfl rfl rfl rfl ⟨rfl, rfl, rfl, rfl, rfl⟩ rfl rfl rfl rfl rfl (by kernel_rfl) Try.func6 (by kernel_rfl)
    (of_decide_eq_true (by kernel_rfl)) (by unfold Func.isWrapper; first | (rw [if_pos (by decide +kernel)]; kernel_rfl) | (rw [if_neg (by decide +kernel)]; exact ⟨rfl, rfl⟩))
    (fun os started H enc _ => lifted os started H enc)
end Go.Proofs.Ythibakgnddmlfaa.codeReads
