/- A step of both readers (cofferlaw05.step). -/
import Derived.Test.YthibakgnddmlfaaSame
import Derived.Test.YthibakgnddmlfaaRef
import Derived.Deep.RegionHeld3
namespace Go.Proofs.Ythibakgnddmlfaa
open Go.RowKit

/-- what a step does to a reader -/
def Rd.step (r : Rd) (d n : Int) : Rd :=
  if d = 0 then (r.num 1).2 else if d = 1 then (r.num 2).2 else if d = 2 then (r.num 4).2 else if d = 3 then (r.num 8).2 else
  if d = 4 then r.text.2 else if d = 5 then (r.texts n).2 else if d = 6 then (r.bytes n).2 else r

def StepPost (b x : Nat) (w : World) (r' : Rd) (e : Ending) (w' : World) : Prop :=
  e = .returned (.bool true) ∧ w'.heap[b]? = some (rdO r') ∧ w'.heap[x]? = some (rrO r') ∧ Mod (fun k => k = b ∨ k = x) w w'

set_option maxHeartbeats 1000000 in
theorem step0 (b x : Nat) (r : Rd) (n : Int) (w : World) (hb : w.heap[b]? = some (rdO r)) (hx : w.heap[x]? = some (rrO r)) (hbx : b ≠ x) (hs : r.s.size ≤ maxLen) (hat : r.at_ ≤ r.s.size) :
    Calls Try.prog 24 #[.pointer (some ⟨b, 0, none⟩), .pointer (some ⟨x, 0, none⟩), .agg #[.int .i64 0, .int .i64 n]] w (StepPost b x w (r.num 1).2) := by
  have HB := Lib.hid hb; have HX := Lib.hid hx
  have bl := lt_of hb; have xl := lt_of hx
  have HBX : Hid (b ≠ x) := hbx
  clear hb hx hbx
  go_enter Try.func24, Try.ntmps24
  go_wp2_with fail
  refine (U8_any b r _ ?_ hs hat).mono ?_
  · rw [Below.heap_alloc _ _ _ bl]; exact HB.out
  rintro e w1 ⟨rfl, h1, m1⟩
  have m01 : Mod (fun k => k = b ∨ k = x) w w1 := ((Mod.refl _ w).alloc _).trans (m1.mono fun k _ h => Or.inl h)
  have HX1 : Hid (w1.heap[x]? = some (rrO r)) := by
    show _ = _
    rw [m1.block x (by rw [World.size_alloc]; omega) (fun h => HBX.out h.symm), Below.heap_alloc _ _ _ xl]; exact HX.out
  have H1 := Lib.hid h1; clear h1 m1
  go_wp2_with fail
  refine (rNum x r 1 _ rfl _ HX1.out hs hat (by omega)).mono ?_
  rintro e w2 ⟨rfl, h2, m2⟩
  have HB2 : Hid (w2.heap[b]? = some (rdO (r.num 1).2)) := (m2.block b (lt_of H1.out) (fun h => HBX.out h)).trans H1.out
  have m02 : Mod (fun k => k = b ∨ k = x) w w2 := m01.trans (m2.mono fun k _ h => Or.inr h)
  have H2 := Lib.hid h2; clear h2 m2 m01
  have hlt : (r.num 1).1 < 18446744073709551616 := Nat.lt_of_lt_of_le (r.num_lt 1) (by decide)
  have hw : IntKind.u64.wrap ((r.num 1).1 : Int) = ((r.num 1).1 : Int) := by rw [IntKind.wrap_u64]; omega
  generalize (r.num 1).1 = q at *
  go_wp2
  go_ret
  exact ⟨rfl, HB2.out, H2.out, m02⟩
set_option maxHeartbeats 1000000 in
theorem step1 (b x : Nat) (r : Rd) (n : Int) (w : World) (hb : w.heap[b]? = some (rdO r)) (hx : w.heap[x]? = some (rrO r)) (hbx : b ≠ x) (hs : r.s.size ≤ maxLen) (hat : r.at_ ≤ r.s.size) :
    Calls Try.prog 24 #[.pointer (some ⟨b, 0, none⟩), .pointer (some ⟨x, 0, none⟩), .agg #[.int .i64 1, .int .i64 n]] w (StepPost b x w (r.num 2).2) := by
  have HB := Lib.hid hb; have HX := Lib.hid hx
  have bl := lt_of hb; have xl := lt_of hx
  have HBX : Hid (b ≠ x) := hbx
  clear hb hx hbx
  go_enter Try.func24, Try.ntmps24
  go_wp2_with fail
  refine (U16_any b r _ ?_ hs hat).mono ?_
  · rw [Below.heap_alloc _ _ _ bl]; exact HB.out
  rintro e w1 ⟨rfl, h1, m1⟩
  have m01 : Mod (fun k => k = b ∨ k = x) w w1 := ((Mod.refl _ w).alloc _).trans (m1.mono fun k _ h => Or.inl h)
  have HX1 : Hid (w1.heap[x]? = some (rrO r)) := by
    show _ = _
    rw [m1.block x (by rw [World.size_alloc]; omega) (fun h => HBX.out h.symm), Below.heap_alloc _ _ _ xl]; exact HX.out
  have H1 := Lib.hid h1; clear h1 m1
  go_wp2_with fail
  refine (rNum x r 2 _ rfl _ HX1.out hs hat (by omega)).mono ?_
  rintro e w2 ⟨rfl, h2, m2⟩
  have HB2 : Hid (w2.heap[b]? = some (rdO (r.num 2).2)) := (m2.block b (lt_of H1.out) (fun h => HBX.out h)).trans H1.out
  have m02 : Mod (fun k => k = b ∨ k = x) w w2 := m01.trans (m2.mono fun k _ h => Or.inr h)
  have H2 := Lib.hid h2; clear h2 m2 m01
  have hlt : (r.num 2).1 < 18446744073709551616 := Nat.lt_of_lt_of_le (r.num_lt 2) (by decide)
  have hw : IntKind.u64.wrap ((r.num 2).1 : Int) = ((r.num 2).1 : Int) := by rw [IntKind.wrap_u64]; omega
  generalize (r.num 2).1 = q at *
  go_wp2
  go_ret
  exact ⟨rfl, HB2.out, H2.out, m02⟩
set_option maxHeartbeats 1000000 in
theorem step2 (b x : Nat) (r : Rd) (n : Int) (w : World) (hb : w.heap[b]? = some (rdO r)) (hx : w.heap[x]? = some (rrO r)) (hbx : b ≠ x) (hs : r.s.size ≤ maxLen) (hat : r.at_ ≤ r.s.size) :
    Calls Try.prog 24 #[.pointer (some ⟨b, 0, none⟩), .pointer (some ⟨x, 0, none⟩), .agg #[.int .i64 2, .int .i64 n]] w (StepPost b x w (r.num 4).2) := by
  have HB := Lib.hid hb; have HX := Lib.hid hx
  have bl := lt_of hb; have xl := lt_of hx
  have HBX : Hid (b ≠ x) := hbx
  clear hb hx hbx
  go_enter Try.func24, Try.ntmps24
  go_wp2_with fail
  refine (U32_any b r _ ?_ hs hat).mono ?_
  · rw [Below.heap_alloc _ _ _ bl]; exact HB.out
  rintro e w1 ⟨rfl, h1, m1⟩
  have m01 : Mod (fun k => k = b ∨ k = x) w w1 := ((Mod.refl _ w).alloc _).trans (m1.mono fun k _ h => Or.inl h)
  have HX1 : Hid (w1.heap[x]? = some (rrO r)) := by
    show _ = _
    rw [m1.block x (by rw [World.size_alloc]; omega) (fun h => HBX.out h.symm), Below.heap_alloc _ _ _ xl]; exact HX.out
  have H1 := Lib.hid h1; clear h1 m1
  go_wp2_with fail
  refine (rNum x r 4 _ rfl _ HX1.out hs hat (by omega)).mono ?_
  rintro e w2 ⟨rfl, h2, m2⟩
  have HB2 : Hid (w2.heap[b]? = some (rdO (r.num 4).2)) := (m2.block b (lt_of H1.out) (fun h => HBX.out h)).trans H1.out
  have m02 : Mod (fun k => k = b ∨ k = x) w w2 := m01.trans (m2.mono fun k _ h => Or.inr h)
  have H2 := Lib.hid h2; clear h2 m2 m01
  have hlt : (r.num 4).1 < 18446744073709551616 := Nat.lt_of_lt_of_le (r.num_lt 4) (by decide)
  have hw : IntKind.u64.wrap ((r.num 4).1 : Int) = ((r.num 4).1 : Int) := by rw [IntKind.wrap_u64]; omega
  generalize (r.num 4).1 = q at *
  go_wp2
  go_ret
  exact ⟨rfl, HB2.out, H2.out, m02⟩
set_option maxHeartbeats 1000000 in
theorem step3 (b x : Nat) (r : Rd) (n : Int) (w : World) (hb : w.heap[b]? = some (rdO r)) (hx : w.heap[x]? = some (rrO r)) (hbx : b ≠ x) (hs : r.s.size ≤ maxLen) (hat : r.at_ ≤ r.s.size) :
    Calls Try.prog 24 #[.pointer (some ⟨b, 0, none⟩), .pointer (some ⟨x, 0, none⟩), .agg #[.int .i64 3, .int .i64 n]] w (StepPost b x w (r.num 8).2) := by
  have HB := Lib.hid hb; have HX := Lib.hid hx
  have bl := lt_of hb; have xl := lt_of hx
  have HBX : Hid (b ≠ x) := hbx
  clear hb hx hbx
  go_enter Try.func24, Try.ntmps24
  go_wp2_with fail
  refine (U64_any b r _ ?_ hs hat).mono ?_
  · rw [Below.heap_alloc _ _ _ bl]; exact HB.out
  rintro e w1 ⟨rfl, h1, m1⟩
  have m01 : Mod (fun k => k = b ∨ k = x) w w1 := ((Mod.refl _ w).alloc _).trans (m1.mono fun k _ h => Or.inl h)
  have HX1 : Hid (w1.heap[x]? = some (rrO r)) := by
    show _ = _
    rw [m1.block x (by rw [World.size_alloc]; omega) (fun h => HBX.out h.symm), Below.heap_alloc _ _ _ xl]; exact HX.out
  have H1 := Lib.hid h1; clear h1 m1
  go_wp2_with fail
  refine (rNum x r 8 _ rfl _ HX1.out hs hat (by omega)).mono ?_
  rintro e w2 ⟨rfl, h2, m2⟩
  have HB2 : Hid (w2.heap[b]? = some (rdO (r.num 8).2)) := (m2.block b (lt_of H1.out) (fun h => HBX.out h)).trans H1.out
  have m02 : Mod (fun k => k = b ∨ k = x) w w2 := m01.trans (m2.mono fun k _ h => Or.inr h)
  have H2 := Lib.hid h2; clear h2 m2 m01
  have hlt : (r.num 8).1 < 18446744073709551616 := Nat.lt_of_lt_of_le (r.num_lt 8) (by decide)
  have hw : IntKind.u64.wrap ((r.num 8).1 : Int) = ((r.num 8).1 : Int) := by rw [IntKind.wrap_u64]; omega
  generalize (r.num 8).1 = q at *
  go_wp2
  go_ret
  exact ⟨rfl, HB2.out, H2.out, m02⟩

set_option maxHeartbeats 1000000 in
theorem step4 (b x : Nat) (r : Rd) (n : Int) (w : World) (hb : w.heap[b]? = some (rdO r)) (hx : w.heap[x]? = some (rrO r)) (hbx : b ≠ x) (hs : r.s.size ≤ maxLen) (hat : r.at_ ≤ r.s.size) :
    Calls Try.prog 24 #[.pointer (some ⟨b, 0, none⟩), .pointer (some ⟨x, 0, none⟩), .agg #[.int .i64 4, .int .i64 n]] w (StepPost b x w r.text.2) := by
  have HB := Lib.hid hb; have HX := Lib.hid hx
  have bl := lt_of hb; have xl := lt_of hx
  have HBX : Hid (b ≠ x) := hbx
  clear hb hx hbx
  go_enter Try.func24, Try.ntmps24
  go_wp2_with fail
  refine (text_any b r _ ?_ hs hat).mono ?_
  · rw [Below.heap_alloc _ _ _ bl]; exact HB.out
  rintro e w1 ⟨rfl, h1, m1⟩
  have m01 : Mod (fun k => k = b ∨ k = x) w w1 := ((Mod.refl _ w).alloc _).trans (m1.mono fun k _ h => Or.inl h)
  have HX1 : Hid (w1.heap[x]? = some (rrO r)) := by
    show _ = _
    rw [m1.block x (by rw [World.size_alloc]; omega) (fun h => HBX.out h.symm), Below.heap_alloc _ _ _ xl]; exact HX.out
  have H1 := Lib.hid h1; clear h1 m1
  go_wp2_with fail
  refine (rText x r _ HX1.out hs hat).mono ?_
  rintro e w2 ⟨rfl, h2, m2⟩
  have HB2 : Hid (w2.heap[b]? = some (rdO r.text.2)) := (m2.block b (lt_of H1.out) (fun h => HBX.out h)).trans H1.out
  have m02 : Mod (fun k => k = b ∨ k = x) w w2 := m01.trans (m2.mono fun k _ h => Or.inr h)
  have H2 := Lib.hid h2; clear h2 m2 m01
  generalize r.text.1 = q at *
  go_wp2
  go_ret
  exact ⟨rfl, HB2.out, H2.out, m02⟩

set_option maxHeartbeats 1000000 in
theorem step7 (b x : Nat) (r : Rd) (d n : Int) (w : World) (hb : w.heap[b]? = some (rdO r)) (hx : w.heap[x]? = some (rrO r)) (hs : r.s.size ≤ maxLen) (hat : r.at_ ≤ r.s.size)
    (h0 : d ≠ 0) (h1 : d ≠ 1) (h2 : d ≠ 2) (h3 : d ≠ 3) (h4 : d ≠ 4) (h5 : d ≠ 5) (h6 : d ≠ 6) :
    Calls Try.prog 24 #[.pointer (some ⟨b, 0, none⟩), .pointer (some ⟨x, 0, none⟩), .agg #[.int .i64 d, .int .i64 n]] w (StepPost b x w r) := by
  have HB := Lib.hid hb; have HX := Lib.hid hx
  have bl := lt_of hb; have xl := lt_of hx
  have g0 : (d == 0) = false := by simpa using h0
  have g1 : (d == 1) = false := by simpa using h1
  have g2 : (d == 2) = false := by simpa using h2
  have g3 : (d == 3) = false := by simpa using h3
  have g4 : (d == 4) = false := by simpa using h4
  have g5 : (d == 5) = false := by simpa using h5
  have g6 : (d == 6) = false := by simpa using h6
  clear hb hx h0 h1 h2 h3 h4 h5 h6
  go_enter Try.func24, Try.ntmps24
  go_wp2_with fail
  refine (end_any b r _ ?_ hs hat).mono ?_
  · rw [Below.heap_alloc _ _ _ bl]; exact HB.out
  rintro e w1 ⟨rfl, n1, rfl⟩
  go_wp2_with fail
  refine (rEnd x r _ ?_ hs).mono ?_
  · show (w.alloc _).heap[x]? = _
    rw [Below.heap_alloc _ _ _ xl]; exact HX.out
  rintro e w1 ⟨rfl, n2, rfl⟩
  go_wp2
  go_ret
  refine ⟨rfl, ?_, ?_, ((Mod.refl _ w).alloc _).drewN _⟩
  · show (w.alloc _).heap[b]? = _
    rw [Below.heap_alloc _ _ _ bl]; exact HB.out
  · show (w.alloc _).heap[x]? = _
    rw [Below.heap_alloc _ _ _ xl]; exact HX.out
theorem alloc_keep {w : World} {o : Obj} {k : Nat} {x : Obj} (h : w.heap[k]? = some x) : (w.alloc o).heap[k]? = some x := by
  rw [Below.heap_alloc _ _ _ (lt_of h)]; exact h

theorem textsGo_len (k : Nat) : ∀ (r : Rd) (acc : List ByteArray), ((Rd.textsGo k r acc).1.getD []).length ≤ acc.length + k := by
  induction k with
  | zero => intro r acc; simp [Rd.textsGo]
  | succ k ih =>
    intro r acc
    unfold Rd.textsGo
    split
    · simp
    · have := ih r.text.2 (acc ++ [r.text.1])
      rw [List.length_append] at this
      simp only [List.length_cons, List.length_nil] at this
      omega
theorem texts_len (r : Rd) (n : Int) : (r.texts n).1.length ≤ maxLen := by
  have h := textsGo_len (r.num 2).1 ((r.num 2).2.cap (r.num 2).1 n) []
  have h2 := r.num_lt 2
  unfold maxLen
  show (((Rd.textsGo (r.num 2).1 ((r.num 2).2.cap (r.num 2).1 n) []).1.getD [])).length ≤ _
  simp only [List.length_nil] at h
  omega

set_option maxHeartbeats 2000000 in
theorem step6 (b x : Nat) (r : Rd) (n : Int) (w : World) (hb : w.heap[b]? = some (rdO r)) (hx : w.heap[x]? = some (rrO r)) (hbx : b ≠ x) (hs : r.s.size ≤ maxLen) (hat : r.at_ ≤ r.s.size) :
    Calls Try.prog 24 #[.pointer (some ⟨b, 0, none⟩), .pointer (some ⟨x, 0, none⟩), .agg #[.int .i64 6, .int .i64 n]] w (StepPost b x w (r.bytes n).2) := by
  have HB := Lib.hid hb; have HX := Lib.hid hx
  have bl := lt_of hb; have xl := lt_of hx
  have HBX : Hid (b ≠ x) := hbx
  clear hb hx hbx
  go_enter Try.func24, Try.ntmps24
  go_wp2
  have c1 : (w.alloc (.cells #[.int .i64 6, .int .i64 n] 53)).cell? ⟨w.heap.size, 1, none⟩ = some (.int .i64 n) := World.cell?_alloc_new w _ _ 1
  have HB0 : Hid ((w.alloc (.cells #[.int .i64 6, .int .i64 n] 53)).heap[b]? = some (rdO r)) := alloc_keep HB.out
  have HX0 : Hid ((w.alloc (.cells #[.int .i64 6, .int .i64 n] 53)).heap[x]? = some (rrO r)) := alloc_keep HX.out
  have m0 : Mod (fun k => k = b ∨ k = x) w (w.alloc (.cells #[.int .i64 6, .int .i64 n] 53)) := (Mod.refl _ w).alloc _
  have sz0 : w.heap.size < (w.alloc (.cells #[.int .i64 6, .int .i64 n] 53)).heap.size := by rw [World.size_alloc]; omega
  generalize w.alloc (.cells #[.int .i64 6, .int .i64 n] 53) = w0 at *
  generalize w.heap.size = B at *
  go_region_held3 (fun w' => w'.cell? ⟨B, 1, none⟩ = some (.int .i64 n)) (first | assumption | exact c1)
    (first
      | (go_at_call 36; refine (bytes_any b r n _ ?_ hs hat).mono ?_; exact HB0.out; rintro e w1 ⟨rfl, h1, m1⟩; have c2 : w1.cell? ⟨B, 1, none⟩ = some (.int .i64 n) := (World.cell?_of_block (a := ⟨B, 1, none⟩) (m1.block B sz0 (by omega))).trans c1; have HX1 : Hid (w1.heap[x]? = some (rrO r)) := (m1.block x (lt_of HX0.out) (fun h => HBX.out h.symm)).trans HX0.out; have H1 := Lib.hid h1; clear h1)
      | (go_at_call 45; refine (rbytes_any x r n _ ?_ hs hat).mono ?_; exact HX1.out; rintro e w2 ⟨rfl, h2, m2⟩; have c3 : w2.cell? ⟨B, 1, none⟩ = some (.int .i64 n) := (World.cell?_of_block (a := ⟨B, 1, none⟩) (m2.block B (Nat.lt_of_lt_of_le sz0 m1.size) (by omega))).trans c2; have H2 := Lib.hid h2; clear h2))
  all_goals
    have HB2 : Hid (w2.heap[b]? = some (rdO (r.bytes n).2)) := (m2.block b (lt_of H1.out) (fun h => HBX.out h)).trans H1.out
    have m02 : Mod (fun k => k = b ∨ k = x) w w2 := (m0.trans (Mod.ofDrew (m1.mono fun k _ h => Or.inl h))).trans (m2.mono fun k _ h => Or.inr h)
    go_wp2
    go_ret
    exact ⟨rfl, HB2.out, H2.out, m02⟩
set_option maxHeartbeats 2000000 in
theorem step5 (b x : Nat) (r : Rd) (n : Int) (w : World) (hb : w.heap[b]? = some (rdO r)) (hx : w.heap[x]? = some (rrO r)) (hbx : b ≠ x) (hs : r.s.size ≤ maxLen) (hat : r.at_ ≤ r.s.size) :
    Calls Try.prog 24 #[.pointer (some ⟨b, 0, none⟩), .pointer (some ⟨x, 0, none⟩), .agg #[.int .i64 5, .int .i64 n]] w (StepPost b x w (r.texts n).2) := by
  have HB := Lib.hid hb; have HX := Lib.hid hx
  have bl := lt_of hb; have xl := lt_of hx
  have HBX : Hid (b ≠ x) := hbx
  clear hb hx hbx
  go_enter Try.func24, Try.ntmps24
  go_wp2
  have c1 : (w.alloc (.cells #[.int .i64 5, .int .i64 n] 53)).cell? ⟨w.heap.size, 1, none⟩ = some (.int .i64 n) := World.cell?_alloc_new w _ _ 1
  have HB0 : Hid ((w.alloc (.cells #[.int .i64 5, .int .i64 n] 53)).heap[b]? = some (rdO r)) := alloc_keep HB.out
  have HX0 : Hid ((w.alloc (.cells #[.int .i64 5, .int .i64 n] 53)).heap[x]? = some (rrO r)) := alloc_keep HX.out
  have m0 : Mod (fun k => k = b ∨ k = x) w (w.alloc (.cells #[.int .i64 5, .int .i64 n] 53)) := (Mod.refl _ w).alloc _
  have sz0 : w.heap.size < (w.alloc (.cells #[.int .i64 5, .int .i64 n] 53)).heap.size := by rw [World.size_alloc]; omega
  generalize w.alloc (.cells #[.int .i64 5, .int .i64 n] 53) = w0 at *
  generalize w.heap.size = B at *
  go_region_held3 (fun w' => w'.cell? ⟨B, 1, none⟩ = some (.int .i64 n)) (first | assumption | exact c1)
    (first
      | (go_at_call 35; refine (texts_any b r n _ ?_ hs hat).mono ?_; exact HB0.out; rintro e w1 ⟨v1, rfl, hv1, h1, m1⟩; have c2 : w1.cell? ⟨B, 1, none⟩ = some (.int .i64 n) := (World.cell?_of_block (a := ⟨B, 1, none⟩) (m1.block B sz0 (by omega))).trans c1; have HX1 : Hid (w1.heap[x]? = some (rrO r)) := (m1.block x (lt_of HX0.out) (fun h => HBX.out h.symm)).trans HX0.out; have H1 := Lib.hid h1; clear h1; have V1 := Lib.hid hv1; clear hv1)
      | (go_at_call 44; refine (rTexts x r n _ ?_ hs hat).mono ?_; exact HX1.out; rintro e w2 ⟨v2, rfl, hv2, h2, m2⟩; have c3 : w2.cell? ⟨B, 1, none⟩ = some (.int .i64 n) := (World.cell?_of_block (a := ⟨B, 1, none⟩) (m2.block B (Nat.lt_of_lt_of_le sz0 m1.size) (by omega))).trans c2; have H2 := Lib.hid h2; clear h2; have V2 := Lib.hid hv2; clear hv2)
      | (go_at_call 37; refine (same_any v1 v2 (r.texts n).1 _ ?_ ?_ (texts_len r n)).mono ?_; exact (V1.out.mod m2 (fun g hg _ e => by have : w0.heap.size ≤ g := hg; omega)).imp (fun _ _ => trivial); exact V2.out.imp (fun _ _ => trivial); rintro e w3 ⟨rfl, n3, rfl⟩))
  all_goals
    have HB2 : Hid (w2.heap[b]? = some (rdO (r.texts n).2)) := (m2.block b (lt_of H1.out) (fun h => HBX.out h)).trans H1.out
    have m02 : Mod (fun k => k = b ∨ k = x) w w2 := (m0.trans (Mod.ofDrew (m1.mono fun k _ h => Or.inl h))).trans (m2.mono fun k _ h => Or.inr h)
    go_wp2
    go_ret
    exact ⟨rfl, HB2.out, H2.out, m02.drewN _⟩
end Go.Proofs.Ythibakgnddmlfaa
