/- The contracts of the document's reader (cofferref05). -/
import Derived.Test.YthibakgnddmlfaaOwn
import Derived.Test.YthibakgnddmlfaaPCode
import Derived.Test.YthibakgnddmlfaaRd
namespace Go.Proofs.Ythibakgnddmlfaa
open Go.RowKit

/-- the document's reader in memory -/
def rrObj (s : ByteArray) (at_ : Nat) (f : Int) : Obj := .cells #[.string s, .int .i64 at_, .int .i64 f] 50 (0, 0)
def rrO (r : Rd) : Obj := rrObj r.s r.at_ r.f

set_option maxHeartbeats 400000 in
theorem rbytes_fault (b : Nat) (s : ByteArray) (at_ : Nat) (f n : Int) (w : World) (h : w.heap[b]? = some (rrObj s at_ f)) (hf : (f != 0) = true) :
    Calls Try.prog 45 #[.pointer (some ⟨b, 0, none⟩), .int .i64 n] w fun e w' => e = .returned (.string ByteArray.empty) ∧ w = w' := by
  have c0 : w.cell? ⟨b, 0, none⟩ = some (.string s) := (cell_of h 0).trans rfl
  have c1 : w.cell? ⟨b, 1, none⟩ = some (.int .i64 at_) := (cell_of h 1).trans rfl
  have c2 : w.cell? ⟨b, 2, none⟩ = some (.int .i64 f) := (cell_of h 2).trans rfl
  have f1 : w.frozen? ⟨b, 1, none⟩ = false := free_of h 1
  have f2 : w.frozen? ⟨b, 2, none⟩ = false := free_of h 2
  have H := Lib.hid h; clear h
  go_enter Try.func45, Try.ntmps45
  go_wp2
  go_ret
  exact ⟨rfl, rfl⟩

set_option maxHeartbeats 400000 in
theorem rbytes_neg (b : Nat) (s : ByteArray) (at_ : Nat) (n : Int) (w : World) (h : w.heap[b]? = some (rrObj s at_ 0)) (hn : n < 0) :
    Calls Try.prog 45 #[.pointer (some ⟨b, 0, none⟩), .int .i64 n] w fun e w' => e = .returned (.string ByteArray.empty) ∧ w'.heap[b]? = some (rrObj s at_ 2) ∧ Mod (· = b) w w' := by
  have c0 : w.cell? ⟨b, 0, none⟩ = some (.string s) := (cell_of h 0).trans rfl
  have c1 : w.cell? ⟨b, 1, none⟩ = some (.int .i64 at_) := (cell_of h 1).trans rfl
  have c2 : w.cell? ⟨b, 2, none⟩ = some (.int .i64 0) := (cell_of h 2).trans rfl
  have f1 : w.frozen? ⟨b, 1, none⟩ = false := free_of h 1
  have f2 : w.frozen? ⟨b, 2, none⟩ = false := free_of h 2
  have H := Lib.hid h; clear h
  go_enter Try.func45, Try.ntmps45
  go_wp2
  go_ret
  exact ⟨rfl, heap_set H.out 2 _, Mod.set1 _ _ _ _⟩

set_option maxHeartbeats 400000 in
theorem rbytes_short (b : Nat) (s : ByteArray) (at_ n : Nat) (w : World) (h : w.heap[b]? = some (rrObj s at_ 0)) (hs : s.size ≤ maxLen) (hat : at_ ≤ s.size) (hn : (s.size : Int) - at_ < n) :
    Calls Try.prog 45 #[.pointer (some ⟨b, 0, none⟩), .int .i64 n] w fun e w' => e = .returned (.string ByteArray.empty) ∧ w'.heap[b]? = some (rrObj s at_ 50) ∧ Mod (· = b) w w' := by
  unfold maxLen at hs
  have c0 : w.cell? ⟨b, 0, none⟩ = some (.string s) := (cell_of h 0).trans rfl
  have c1 : w.cell? ⟨b, 1, none⟩ = some (.int .i64 at_) := (cell_of h 1).trans rfl
  have c2 : w.cell? ⟨b, 2, none⟩ = some (.int .i64 0) := (cell_of h 2).trans rfl
  have f1 : w.frozen? ⟨b, 1, none⟩ = false := free_of h 1
  have f2 : w.frozen? ⟨b, 2, none⟩ = false := free_of h 2
  have H := Lib.hid h; clear h
  go_enter Try.func45, Try.ntmps45
  go_wp2
  go_quiet (fail)
  go_wp2
  go_ret
  exact ⟨rfl, heap_set (H.out : w.heap[b]? = _) 2 _, (Mod.set1 _ _ _ _).drewN _⟩

set_option maxHeartbeats 400000 in
theorem rbytes_ok (b : Nat) (s : ByteArray) (at_ n : Nat) (w : World) (h : w.heap[b]? = some (rrObj s at_ 0)) (hs : s.size ≤ maxLen) (hn : at_ + n ≤ s.size) :
    Calls Try.prog 45 #[.pointer (some ⟨b, 0, none⟩), .int .i64 n] w fun e w' => e = .returned (.string (s.extract at_ (at_ + n))) ∧ w'.heap[b]? = some (rrObj s (at_ + n) 0) ∧ Mod (· = b) w w' := by
  unfold maxLen at hs
  have c0 : w.cell? ⟨b, 0, none⟩ = some (.string s) := (cell_of h 0).trans rfl
  have c1 : w.cell? ⟨b, 1, none⟩ = some (.int .i64 at_) := (cell_of h 1).trans rfl
  have c2 : w.cell? ⟨b, 2, none⟩ = some (.int .i64 0) := (cell_of h 2).trans rfl
  have f1 : w.frozen? ⟨b, 1, none⟩ = false := free_of h 1
  have f2 : w.frozen? ⟨b, 2, none⟩ = false := free_of h 2
  have H := Lib.hid h; clear h
  go_enter Try.func45, Try.ntmps45
  go_wp2
  go_quiet (fail)
  go_wp2
  go_quiet (fail)
  go_wp2
  go_ret
  exact ⟨rfl, heap_set (H.out : w.heap[b]? = _) 1 _, ((Mod.refl (· = b) w).drewN _).setCell (p := ⟨b, 1, none⟩) (Or.inl rfl) _⟩

/-- any call of Bytes -/
theorem rbytes_any (b : Nat) (r : Rd) (n : Int) (w : World) (h : w.heap[b]? = some (rrO r)) (hs : r.s.size ≤ maxLen) (hat : r.at_ ≤ r.s.size) :
    Calls Try.prog 45 #[.pointer (some ⟨b, 0, none⟩), .int .i64 n] w fun e w' => e = .returned (.string (r.bytes n).1) ∧ w'.heap[b]? = some (rrO (r.bytes n).2) ∧ Mod (· = b) w w' := by
  unfold Rd.bytes
  by_cases h1 : r.f = 0
  · rw [if_neg (by omega)]
    obtain ⟨s, at_, f⟩ := r
    obtain rfl : f = 0 := h1
    by_cases h2 : n < 0
    · rw [if_pos h2]
      exact rbytes_neg b s at_ n w h h2
    · rw [if_neg h2]
      obtain ⟨k, rfl⟩ := Int.eq_ofNat_of_zero_le (Int.not_lt.1 h2)
      by_cases h3 : s.size < at_ + k
      · rw [if_pos (by simp only [Int.toNat_natCast]; omega)]
        exact rbytes_short b s at_ k w h hs hat (by omega)
      · rw [if_neg (by simp only [Int.toNat_natCast]; omega)]
        exact rbytes_ok b s at_ k w h hs (by omega)
  · rw [if_pos h1]
    exact (rbytes_fault b r.s r.at_ r.f n w h (by simpa using h1)).mono fun e w' ⟨he, hw⟩ => ⟨he, hw ▸ h, hw ▸ Mod.refl _ _⟩

set_option maxHeartbeats 400000 in
theorem rNum (b : Nat) (r : Rd) (n : Nat) (m : Int) (hm : m = n) (w : World) (h : w.heap[b]? = some (rrO r)) (hs : r.s.size ≤ maxLen) (hat : r.at_ ≤ r.s.size) (hn : n ≤ 8) :
    Calls Try.prog 38 #[.pointer (some ⟨b, 0, none⟩), .int .i64 m] w fun e w' => e = .returned (.int .u64 (r.num n).1) ∧ w'.heap[b]? = some (rrO (r.num n).2) ∧ Mod (· = b) w w' := by
  subst hm
  go_enter Try.func38, Try.ntmps38
  go_wp2_with fail
  refine (rbytes_any b r n _ h hs hat).mono ?_
  rintro e w1 ⟨rfl, h1, m1⟩
  have hsz : (r.bytes (n : Nat)).1.size ≤ n := Rd.bytes_size_le r n
  have HN : Hid ((r.num n).1 = leNat (r.bytes n).1.data.toList ∧ (r.num n).2 = (r.bytes n).2) := ⟨rfl, rfl⟩
  generalize hT : (r.bytes n).1 = t at *
  have H1 := Lib.hid h1; clear h1
  clear hT h
  generalize hY : (r.bytes n).2 = y at *
  clear hY
  go_wp2
  go_loop [6, 7] (fun x i => ∃ k : Nat, k ≤ t.size ∧ i = .int .i64 ((k : Int) - 1) ∧ x = .int .u64 (leNat (t.data.toList.drop k))) (fun _ i => ((intOf i) + 1).toNat)
  case atStart => exact ⟨t.size, Nat.le_refl _, rfl, by rw [List.drop_eq_nil_of_le (by rw [Array.length_toList]; exact Nat.le_refl _)]; rfl⟩
  case round =>
    obtain ⟨k, hk, rfl, rfl⟩ := hrel
    by_cases hlt : 0 < k
    · obtain ⟨j, rfl⟩ : ∃ j, k = j + 1 := ⟨k - 1, by omega⟩
      rw [show (((j + 1 : Nat) : Int) - 1) = (j : Int) from by omega]
      have hj : j < t.size := by omega
      have HV : Hid _ := le_shift t j hj (by omega)
      go_wp2
      go_round
      case rel => exact ⟨j, by omega, rfl, congrArg (Value.int .u64) HV.out⟩
      case measure => show (((j : Int) - 1) + 1).toNat < ((j : Int) + 1).toNat; omega
    · obtain rfl : k = 0 := by omega
      go_wp2
      go_ret
      refine ⟨?_, by rw [HN.out.2]; exact H1.out, m1⟩
      exact ret_int (by rw [HN.out.1])
set_option maxHeartbeats 400000 in
theorem rText (b : Nat) (r : Rd) (w : World) (h : w.heap[b]? = some (rrO r)) (hs : r.s.size ≤ maxLen) (hat : r.at_ ≤ r.s.size) :
    Calls Try.prog 43 #[.pointer (some ⟨b, 0, none⟩)] w fun e w' => e = .returned (.string r.text.1) ∧ w'.heap[b]? = some (rrO r.text.2) ∧ Mod (· = b) w w' := by
  obtain ⟨s, at_, f⟩ := r
  simp only at hs hat
  have h0 := Lib.hid h
  have hnl : (Rd.num ⟨s, at_, f⟩ 2).1 < 65536 := Rd.num_lt _ 2
  have c0 : w.cell? ⟨b, 0, none⟩ = some (.string s) := (cell_of h 0).trans rfl
  have c1 : w.cell? ⟨b, 1, none⟩ = some (.int .i64 at_) := (cell_of h 1).trans rfl
  have c2 : w.cell? ⟨b, 2, none⟩ = some (.int .i64 f) := (cell_of h 2).trans rfl
  have f1 : w.frozen? ⟨b, 1, none⟩ = false := free_of h 1
  have f2 : w.frozen? ⟨b, 2, none⟩ = false := free_of h 2
  have H := Lib.hid h; clear h
  go_enter Try.func43, Try.ntmps43
  go_wp2_with fail
  refine (rNum b _ 2 _ rfl _ h0.out hs hat (by omega)).mono ?_
  rintro e w1 ⟨rfl, h1, m1⟩
  have H1 := Lib.hid h1; clear h1
  go_wp2_with fail
  refine (rbytes_any b _ _ _ H1.out (by rw [Rd.num_s]; exact hs) (Rd.num_at _ _ hat)).mono ?_
  rintro e w2 ⟨rfl, h2, m2⟩
  have HT : Hid (Rd.text ⟨s, at_, f⟩ = ((((Rd.num ⟨s, at_, f⟩ 2).2.bytes (Rd.num ⟨s, at_, f⟩ 2).1).1), ((Rd.num ⟨s, at_, f⟩ 2).2.bytes (Rd.num ⟨s, at_, f⟩ 2).1).2.keep at_)) := rfl
  have HE : Hid (((Rd.num ⟨s, at_, f⟩ 2).2.bytes (Rd.num ⟨s, at_, f⟩ 2).1).2.f ≠ 0 → ((Rd.num ⟨s, at_, f⟩ 2).2.bytes (Rd.num ⟨s, at_, f⟩ 2).1).1 = ByteArray.empty) := Rd.bytes_empty _ _
  clear H1
  generalize ((Rd.num ⟨s, at_, f⟩ 2).2.bytes (Rd.num ⟨s, at_, f⟩ 2).1).1 = t at *
  generalize ((Rd.num ⟨s, at_, f⟩ 2).2.bytes (Rd.num ⟨s, at_, f⟩ 2).1).2 = y at *
  generalize (Rd.num ⟨s, at_, f⟩ 2).1 = n at *
  obtain ⟨ys, ya, yf⟩ := y
  have d1 : w2.cell? ⟨b, 1, none⟩ = some (.int .i64 ya) := (cell_of h2 1).trans rfl
  have d2 : w2.cell? ⟨b, 2, none⟩ = some (.int .i64 yf) := (cell_of h2 2).trans rfl
  have e1 : w2.frozen? ⟨b, 1, none⟩ = false := free_of h2 1
  have H2 := Lib.hid h2; clear h2
  by_cases g : yf = 0
  · have g' : (yf != 0) = false := by simp [g]
    have hk : Rd.keep ⟨ys, ya, yf⟩ at_ = ⟨ys, ya, yf⟩ := if_neg (fun x => x g)
    rw [hk] at HT
    clear hk HE g
    go_wp2
    go_ret
    exact ⟨by rw [HT.out]; rfl, by rw [HT.out]; exact H2.out, m1.trans m2⟩
  · have g' : (yf != 0) = true := by simpa using g
    have hk : Rd.keep ⟨ys, ya, yf⟩ at_ = ⟨ys, at_, yf⟩ := if_pos g
    rw [hk, HE.out g] at HT
    clear hk HE g
    go_wp2
    go_ret
    exact ⟨by rw [HT.out]; rfl, by rw [HT.out]; exact heap_set (H2.out : w2.heap[b]? = _) 1 _, (m1.trans m2).trans (Mod.set1 _ _ _ _)⟩

set_option maxHeartbeats 400000 in
theorem rEnd (b : Nat) (r : Rd) (w : World) (h : w.heap[b]? = some (rrO r)) (hs : r.s.size ≤ maxLen) :
    Calls Try.prog 29 #[.pointer (some ⟨b, 0, none⟩)] w fun e w' => e = .returned (.int .i64 r.end_) ∧ ∃ n, w' = w.drewN n := by
  obtain ⟨s, at_, f⟩ := r
  have hE : Hid (Rd.end_ ⟨s, at_, f⟩ = if f ≠ 0 then f else if at_ < s.size then 51 else 0) := rfl
  simp only at hs
  unfold maxLen at hs
  have c0 : w.cell? ⟨b, 0, none⟩ = some (.string s) := (cell_of h 0).trans rfl
  have c1 : w.cell? ⟨b, 1, none⟩ = some (.int .i64 at_) := (cell_of h 1).trans rfl
  have c2 : w.cell? ⟨b, 2, none⟩ = some (.int .i64 f) := (cell_of h 2).trans rfl
  have f1 : w.frozen? ⟨b, 1, none⟩ = false := free_of h 1
  have f2 : w.frozen? ⟨b, 2, none⟩ = false := free_of h 2
  have H := Lib.hid h; clear h
  by_cases h1 : f = 0
  · subst h1
    by_cases h2 : at_ < s.size
    all_goals
      go_enter Try.func29, Try.ntmps29
      go_wp2
      go_quiet (fail)
      go_wp2
      go_ret
      exact ⟨ret_int (by rw [hE.out, if_neg (fun x => x rfl)]; first | rw [if_pos h2] | rw [if_neg (by omega)]), _, rfl⟩
  · have g1 : (f != 0) = true := by simpa using h1
    go_enter Try.func29, Try.ntmps29
    go_wp2
    go_ret
    exact ⟨ret_int (by rw [hE.out, if_pos h1]), 0, rfl⟩
theorem info_string : (Try.prog.info? 9).map (fun i => (i.zero, i.size, i.bytes)) = some (some (.string ByteArray.empty), 1, 16) := by kernel_rfl
theorem cap_s (r : Rd) (n : Nat) (most : Int) : (r.cap n most).s = r.s := by unfold Rd.cap; split <;> rfl
theorem cap_at (r : Rd) (n : Nat) (most : Int) : (r.cap n most).at_ = r.at_ := by unfold Rd.cap; split <;> rfl

set_option maxHeartbeats 2000000 in
theorem rTexts (b : Nat) (r : Rd) (most : Int) (w : World) (h : w.heap[b]? = some (rrO r)) (hs : r.s.size ≤ maxLen) (hat : r.at_ ≤ r.s.size) :
    Calls Try.prog 44 #[.pointer (some ⟨b, 0, none⟩), .int .i64 most] w fun e w' => ∃ v, e = .returned v ∧ SlAt w' (w.heap.size ≤ ·) v ((r.texts most).1.map Value.string) ∧
      w'.heap[b]? = some (rrO (r.texts most).2) ∧ Mod (· = b) w w' := by
  obtain ⟨s, at_, f⟩ := r
  simp only at hs hat
  have h0 := Lib.hid h
  have hnl : (Rd.num ⟨s, at_, f⟩ 2).1 < 65536 := Rd.num_lt _ 2
  have c0 : w.cell? ⟨b, 0, none⟩ = some (.string s) := (cell_of h 0).trans rfl
  have c1 : w.cell? ⟨b, 1, none⟩ = some (.int .i64 at_) := (cell_of h 1).trans rfl
  have c2 : w.cell? ⟨b, 2, none⟩ = some (.int .i64 f) := (cell_of h 2).trans rfl
  have f1 : w.frozen? ⟨b, 1, none⟩ = false := free_of h 1
  have f2 : w.frozen? ⟨b, 2, none⟩ = false := free_of h 2
  have H := Lib.hid h; clear h
  go_enter Try.func44, Try.ntmps44
  go_wp2_with fail
  refine (rNum b _ 2 _ rfl _ h0.out hs hat (by omega)).mono ?_
  rintro e w1 ⟨rfl, h1, m1⟩
  have HS : Hid ((Rd.num ⟨s, at_, f⟩ 2).2.s = s ∧ (Rd.num ⟨s, at_, f⟩ 2).2.at_ ≤ s.size) := ⟨Rd.num_s _ 2, by have := Rd.num_at ⟨s, at_, f⟩ 2 hat; rwa [Rd.num_s] at this⟩
  have HT : Hid ((Rd.texts ⟨s, at_, f⟩ most) = (((Rd.textsGo (Rd.num ⟨s, at_, f⟩ 2).1 ((Rd.num ⟨s, at_, f⟩ 2).2.cap (Rd.num ⟨s, at_, f⟩ 2).1 most) []).1.getD []), (Rd.textsGo (Rd.num ⟨s, at_, f⟩ 2).1 ((Rd.num ⟨s, at_, f⟩ 2).2.cap (Rd.num ⟨s, at_, f⟩ 2).1 most) []).2.keep at_)) := rfl
  generalize (Rd.num ⟨s, at_, f⟩ 2).2 = r1 at *
  generalize (Rd.num ⟨s, at_, f⟩ 2).1 = n at *
  obtain ⟨s1, a1, q1⟩ := r1
  have H1 := Lib.hid h1
  have d2 : w1.cell? ⟨b, 2, none⟩ = some (.int .i64 q1) := (cell_of h1 2).trans rfl
  have e2 : w1.frozen? ⟨b, 2, none⟩ = false := free_of h1 2
  clear h1
  have ht : b < w.heap.size := lt_of h0.out
  have key : ∀ r2 : Rd, Hid (Rd.cap ⟨s1, a1, q1⟩ n most = r2) → Hid (r2.s = s ∧ r2.at_ ≤ s.size) := by
    intro r2 h2
    rw [← h2.out]
    exact ⟨(cap_s _ _ _).trans HS.out.1, by rw [cap_at]; exact HS.out.2⟩
  have key := Lib.hid key
  by_cases g1 : q1 = 0
  · have g1' : (q1 == 0) = true := by simp [g1]
    subst g1
    by_cases g2 : max most 0 < (n : Int)
    · have HC : Hid (Rd.cap ⟨s1, a1, 0⟩ n most = ⟨s1, a1, 4⟩) := if_pos ⟨rfl, g2⟩
      have HR := key.out _ HC
      have H2 : Hid ((w1.setCell ⟨b, 2, none⟩ (.int .i64 4)).heap[b]? = some (rrO ⟨s1, a1, 4⟩)) := heap_set H1.out 2 _
      have m2 : Mod (· = b) w (w1.setCell ⟨b, 2, none⟩ (.int .i64 4)) := m1.trans (Mod.set1 _ _ _ _)
      clear key
      by_cases g3 : most < 0
      · have g4 : (0 : Int) < n := by omega
        have g5 : decide (0 < n) = true := by simp; omega
        go_wp2
        rw [HC.out] at HT
        clear HC d2 e2 c0 c1 c2 f1 f2 H h0 HS H1
        go_loopw [7, 8] (fun v i wr => ∃ (k : Nat) (l : List ByteArray) (rk : Rd), k ≤ n ∧ i = .int .i64 k ∧ OwnA wr w.heap.size 1 v l.length (l.map Value.string) ∧ Hid (wr.heap[b]? = some (rrO rk)) ∧ Hid (rk.s = s ∧ rk.at_ ≤ s.size) ∧
          Hid (rk.f = 0 → Rd.texts ⟨s, at_, f⟩ most = ((Rd.textsGo (n - k) rk l).1.getD [], (Rd.textsGo (n - k) rk l).2.keep at_)) ∧ Hid (rk.f ≠ 0 → Rd.texts ⟨s, at_, f⟩ most = ([], rk.keep at_)) ∧ Hid (l.length = k) ∧ Mod (· = b) w wr) (fun _ i _ => n - (intOf i).toNat)
        case atStart => exact ⟨0, [], _, Nat.zero_le _, rfl, OwnA.nil _ _ _, H2, HR, fun _ => HT.out, fun hf => by rw [HT.out, (Rd.textsGo_fault n _ hf).1, (Rd.textsGo_fault n _ hf).2], rfl, m2⟩
        case round =>
          obtain ⟨k, l, rk, hk, rfl, hown, HB, HRk, HG, HF, HLn, mr⟩ := hrel
          obtain ⟨ks, ka, kf⟩ := rk
          have d2 : wr.cell? ⟨b, 2, none⟩ = some (.int .i64 kf) := (cell_of HB.out 2).trans rfl
          have d1 : wr.cell? ⟨b, 1, none⟩ = some (.int .i64 ka) := (cell_of HB.out 1).trans rfl
          have e1 : wr.frozen? ⟨b, 1, none⟩ = false := free_of HB.out 1
          by_cases gf : kf = 0
          · have gf1 : (kf == 0) = true := by simp [gf]
            have gf2 : (kf != 0) = false := by simp [gf]
            have HG1 : Hid _ := HG.out gf
            clear HF HG gf
            by_cases hlt : k < n
            · have hb : b < wr.heap.size := lt_of HB.out
              have HX : Hid (Rd.textsGo (n - k) ⟨ks, ka, kf⟩ l = if (Rd.text ⟨ks, ka, kf⟩).2.f ≠ 0 then (none, (Rd.text ⟨ks, ka, kf⟩).2) else Rd.textsGo (n - (k + 1)) (Rd.text ⟨ks, ka, kf⟩).2 (l ++ [(Rd.text ⟨ks, ka, kf⟩).1])) := by
                show _ = _
                rw [show n - k = (n - (k + 1)) + 1 from by omega]; rfl
              have HRt : Hid ((Rd.text ⟨ks, ka, kf⟩).2.s = s ∧ (Rd.text ⟨ks, ka, kf⟩).2.at_ ≤ s.size) := ⟨(Rd.text_s _).trans HRk.out.1, by have := Rd.text_at ⟨ks, ka, kf⟩ (by rw [HRk.out.1]; exact HRk.out.2); rwa [Rd.text_s, HRk.out.1] at this⟩
              go_wp2_with fail
              refine (rText b _ _ HB.out (by rw [HRk.out.1]; exact hs) (by rw [HRk.out.1]; exact HRk.out.2)).mono ?_
              rintro e w2 ⟨rfl, hT2, mT⟩
              have HB2 := Lib.hid hT2; clear hT2
              clear d1 d2 e1
              generalize (Rd.text ⟨ks, ka, kf⟩).2 = rt at *
              generalize (Rd.text ⟨ks, ka, kf⟩).1 = t at *
              have hown2 := (hown.mod mT (fun k hk e => by omega)).mod (S := fun _ => False) ((Mod.refl _ w2).alloc (.cells #[.string t] 9)) (fun _ _ x => x)
              have hlb : l.length ≤ 65536 := by have := HLn.out; omega
              have C1 : Hid ((l.length + 1) * 16 ≤ 140737488355328) := by show _ ≤ _; omega
              have C2 : Hid (l.length + 1 ≤ 9223372036854775807) := by show _ ≤ _; omega
              have C3 : Hid (w.heap.size ≤ (w2.alloc (.cells #[.string t] 9)).heap.size) := by show _ ≤ _; rw [World.size_alloc]; have := (mr.trans mT).size; omega
              have C4 : Hid (∀ u ∈ ([Value.string t] : List Value), u.oneCell' = true) := by intro u hu; rcases List.mem_singleton.1 hu with rfl; rfl
              have C5 : Hid (Src Try.prog 1 29 (.slice (some ⟨w2.heap.size, 0, none⟩) 1 1) 1 [.string t] (w2.alloc (.cells #[.string t] 9))) := Src.ofSlice _ Try.underlying29 _ _ _ _ rfl (new_one _ _ _) C4.out
              go_wp2_with (refine wpl_append rfl (.tmp 43) (.tmp 46) _ _ rfl w.heap.size 9 (.string ByteArray.empty) 1 16 Try.underlying29 info_string rfl (by decide) _ _ _ rfl hown2 _ _ _ rfl C5.out C1.out C2.out C3.out ?_; intro v' w3 hown' hgrow)
              go_roundw
              case rel =>
                have m3 := hown2.thenMod ((mr.trans mT).alloc _) hgrow (Nat.le_refl _)
                have HB3 : Hid (w3.heap[b]? = some (rrO rt)) := by
                  show _ = _
                  have hb2 : b < w2.heap.size := Nat.lt_of_lt_of_le hb mT.size
                  rw [hown2.keep hgrow ht (by rw [World.size_alloc]; omega), Below.heap_alloc _ _ _ hb2]; exact HB2.out
                refine ⟨k + 1, l ++ [t], rt, hlt, by go_num, by simpa using hown', HB3, HRt, fun hf => ?_, fun hf => ?_, by show _ = _; rw [List.length_append, HLn.out]; rfl, m3⟩
                · rw [HG1.out, HX.out, if_neg (fun x => x hf)]
                · rw [HG1.out, HX.out, if_pos hf]; rfl
              case measure => simp [intOf]; omega
            · have hr : Hid ((Rd.texts ⟨s, at_, f⟩ most) = (l, Rd.keep ⟨ks, ka, kf⟩ at_)) := by
                show _ = _
                rw [HG1.out, show n - k = 0 from by omega]; rfl
              have hk0 : Rd.keep ⟨ks, ka, kf⟩ at_ = ⟨ks, ka, kf⟩ := if_neg (by simpa using gf2)
              rw [hk0] at hr
              clear hk0
              have hsl := hown.slAt
              clear HG1 HLn hown
              go_wp2
              go_ret
              rw [hr.out]
              exact ⟨_, rfl, hsl, HB.out, mr⟩
          · have gf1 : (kf == 0) = false := by simpa using gf
            have gf2 : (kf != 0) = true := by simpa using gf
            have hr : Hid ((Rd.texts ⟨s, at_, f⟩ most) = ([], Rd.keep ⟨ks, ka, kf⟩ at_)) := HF.out gf
            have hk0 : Rd.keep ⟨ks, ka, kf⟩ at_ = ⟨ks, at_, kf⟩ := if_pos gf
            rw [hk0] at hr
            clear hk0 HF HG gf hown HLn
            by_cases hlt : k < n
            all_goals first | (exfalso; omega) | (go_wp2; go_ret; rw [hr.out]; exact ⟨_, rfl, .inl ⟨rfl, _, _, rfl⟩, heap_set (HB.out : wr.heap[b]? = _) 1 _, mr.trans (Mod.set1 _ _ _ _)⟩)
      · have g4 : most < n := by omega
        go_wp2
        rw [HC.out] at HT
        clear HC d2 e2 c0 c1 c2 f1 f2 H h0 HS H1
        go_loopw [7, 8] (fun v i wr => ∃ (k : Nat) (l : List ByteArray) (rk : Rd), k ≤ n ∧ i = .int .i64 k ∧ OwnA wr w.heap.size 1 v l.length (l.map Value.string) ∧ Hid (wr.heap[b]? = some (rrO rk)) ∧ Hid (rk.s = s ∧ rk.at_ ≤ s.size) ∧
          Hid (rk.f = 0 → Rd.texts ⟨s, at_, f⟩ most = ((Rd.textsGo (n - k) rk l).1.getD [], (Rd.textsGo (n - k) rk l).2.keep at_)) ∧ Hid (rk.f ≠ 0 → Rd.texts ⟨s, at_, f⟩ most = ([], rk.keep at_)) ∧ Hid (l.length = k) ∧ Mod (· = b) w wr) (fun _ i _ => n - (intOf i).toNat)
        case atStart => exact ⟨0, [], _, Nat.zero_le _, rfl, OwnA.nil _ _ _, H2, HR, fun _ => HT.out, fun hf => by rw [HT.out, (Rd.textsGo_fault n _ hf).1, (Rd.textsGo_fault n _ hf).2], rfl, m2⟩
        case round =>
          obtain ⟨k, l, rk, hk, rfl, hown, HB, HRk, HG, HF, HLn, mr⟩ := hrel
          obtain ⟨ks, ka, kf⟩ := rk
          have d2 : wr.cell? ⟨b, 2, none⟩ = some (.int .i64 kf) := (cell_of HB.out 2).trans rfl
          have d1 : wr.cell? ⟨b, 1, none⟩ = some (.int .i64 ka) := (cell_of HB.out 1).trans rfl
          have e1 : wr.frozen? ⟨b, 1, none⟩ = false := free_of HB.out 1
          by_cases gf : kf = 0
          · have gf1 : (kf == 0) = true := by simp [gf]
            have gf2 : (kf != 0) = false := by simp [gf]
            have HG1 : Hid _ := HG.out gf
            clear HF HG gf
            by_cases hlt : k < n
            · have hb : b < wr.heap.size := lt_of HB.out
              have HX : Hid (Rd.textsGo (n - k) ⟨ks, ka, kf⟩ l = if (Rd.text ⟨ks, ka, kf⟩).2.f ≠ 0 then (none, (Rd.text ⟨ks, ka, kf⟩).2) else Rd.textsGo (n - (k + 1)) (Rd.text ⟨ks, ka, kf⟩).2 (l ++ [(Rd.text ⟨ks, ka, kf⟩).1])) := by
                show _ = _
                rw [show n - k = (n - (k + 1)) + 1 from by omega]; rfl
              have HRt : Hid ((Rd.text ⟨ks, ka, kf⟩).2.s = s ∧ (Rd.text ⟨ks, ka, kf⟩).2.at_ ≤ s.size) := ⟨(Rd.text_s _).trans HRk.out.1, by have := Rd.text_at ⟨ks, ka, kf⟩ (by rw [HRk.out.1]; exact HRk.out.2); rwa [Rd.text_s, HRk.out.1] at this⟩
              go_wp2_with fail
              refine (rText b _ _ HB.out (by rw [HRk.out.1]; exact hs) (by rw [HRk.out.1]; exact HRk.out.2)).mono ?_
              rintro e w2 ⟨rfl, hT2, mT⟩
              have HB2 := Lib.hid hT2; clear hT2
              clear d1 d2 e1
              generalize (Rd.text ⟨ks, ka, kf⟩).2 = rt at *
              generalize (Rd.text ⟨ks, ka, kf⟩).1 = t at *
              have hown2 := (hown.mod mT (fun k hk e => by omega)).mod (S := fun _ => False) ((Mod.refl _ w2).alloc (.cells #[.string t] 9)) (fun _ _ x => x)
              have hlb : l.length ≤ 65536 := by have := HLn.out; omega
              have C1 : Hid ((l.length + 1) * 16 ≤ 140737488355328) := by show _ ≤ _; omega
              have C2 : Hid (l.length + 1 ≤ 9223372036854775807) := by show _ ≤ _; omega
              have C3 : Hid (w.heap.size ≤ (w2.alloc (.cells #[.string t] 9)).heap.size) := by show _ ≤ _; rw [World.size_alloc]; have := (mr.trans mT).size; omega
              have C4 : Hid (∀ u ∈ ([Value.string t] : List Value), u.oneCell' = true) := by intro u hu; rcases List.mem_singleton.1 hu with rfl; rfl
              have C5 : Hid (Src Try.prog 1 29 (.slice (some ⟨w2.heap.size, 0, none⟩) 1 1) 1 [.string t] (w2.alloc (.cells #[.string t] 9))) := Src.ofSlice _ Try.underlying29 _ _ _ _ rfl (new_one _ _ _) C4.out
              go_wp2_with (refine wpl_append rfl (.tmp 43) (.tmp 46) _ _ rfl w.heap.size 9 (.string ByteArray.empty) 1 16 Try.underlying29 info_string rfl (by decide) _ _ _ rfl hown2 _ _ _ rfl C5.out C1.out C2.out C3.out ?_; intro v' w3 hown' hgrow)
              go_roundw
              case rel =>
                have m3 := hown2.thenMod ((mr.trans mT).alloc _) hgrow (Nat.le_refl _)
                have HB3 : Hid (w3.heap[b]? = some (rrO rt)) := by
                  show _ = _
                  have hb2 : b < w2.heap.size := Nat.lt_of_lt_of_le hb mT.size
                  rw [hown2.keep hgrow ht (by rw [World.size_alloc]; omega), Below.heap_alloc _ _ _ hb2]; exact HB2.out
                refine ⟨k + 1, l ++ [t], rt, hlt, by go_num, by simpa using hown', HB3, HRt, fun hf => ?_, fun hf => ?_, by show _ = _; rw [List.length_append, HLn.out]; rfl, m3⟩
                · rw [HG1.out, HX.out, if_neg (fun x => x hf)]
                · rw [HG1.out, HX.out, if_pos hf]; rfl
              case measure => simp [intOf]; omega
            · have hr : Hid ((Rd.texts ⟨s, at_, f⟩ most) = (l, Rd.keep ⟨ks, ka, kf⟩ at_)) := by
                show _ = _
                rw [HG1.out, show n - k = 0 from by omega]; rfl
              have hk0 : Rd.keep ⟨ks, ka, kf⟩ at_ = ⟨ks, ka, kf⟩ := if_neg (by simpa using gf2)
              rw [hk0] at hr
              clear hk0
              have hsl := hown.slAt
              clear HG1 HLn hown
              go_wp2
              go_ret
              rw [hr.out]
              exact ⟨_, rfl, hsl, HB.out, mr⟩
          · have gf1 : (kf == 0) = false := by simpa using gf
            have gf2 : (kf != 0) = true := by simpa using gf
            have hr : Hid ((Rd.texts ⟨s, at_, f⟩ most) = ([], Rd.keep ⟨ks, ka, kf⟩ at_)) := HF.out gf
            have hk0 : Rd.keep ⟨ks, ka, kf⟩ at_ = ⟨ks, at_, kf⟩ := if_pos gf
            rw [hk0] at hr
            clear hk0 HF HG gf hown HLn
            by_cases hlt : k < n
            all_goals first | (exfalso; omega) | (go_wp2; go_ret; rw [hr.out]; exact ⟨_, rfl, .inl ⟨rfl, _, _, rfl⟩, heap_set (HB.out : wr.heap[b]? = _) 1 _, mr.trans (Mod.set1 _ _ _ _)⟩)
    · have HC : Hid (Rd.cap ⟨s1, a1, 0⟩ n most = ⟨s1, a1, 0⟩) := if_neg (fun x => g2 x.2)
      have HR := key.out _ HC
      have H2 := H1
      have m2 := m1
      clear key
      by_cases g3 : most < 0
      · have g4 : ¬ (0 : Int) < n := by omega
        go_wp2
        rw [HC.out] at HT
        clear HC d2 e2 c0 c1 c2 f1 f2 H h0 HS H1
        go_loopw [7, 8] (fun v i wr => ∃ (k : Nat) (l : List ByteArray) (rk : Rd), k ≤ n ∧ i = .int .i64 k ∧ OwnA wr w.heap.size 1 v l.length (l.map Value.string) ∧ Hid (wr.heap[b]? = some (rrO rk)) ∧ Hid (rk.s = s ∧ rk.at_ ≤ s.size) ∧
          Hid (rk.f = 0 → Rd.texts ⟨s, at_, f⟩ most = ((Rd.textsGo (n - k) rk l).1.getD [], (Rd.textsGo (n - k) rk l).2.keep at_)) ∧ Hid (rk.f ≠ 0 → Rd.texts ⟨s, at_, f⟩ most = ([], rk.keep at_)) ∧ Hid (l.length = k) ∧ Mod (· = b) w wr) (fun _ i _ => n - (intOf i).toNat)
        case atStart => exact ⟨0, [], _, Nat.zero_le _, rfl, OwnA.nil _ _ _, H2, HR, fun _ => HT.out, fun hf => by rw [HT.out, (Rd.textsGo_fault n _ hf).1, (Rd.textsGo_fault n _ hf).2], rfl, m2⟩
        case round =>
          obtain ⟨k, l, rk, hk, rfl, hown, HB, HRk, HG, HF, HLn, mr⟩ := hrel
          obtain ⟨ks, ka, kf⟩ := rk
          have d2 : wr.cell? ⟨b, 2, none⟩ = some (.int .i64 kf) := (cell_of HB.out 2).trans rfl
          have d1 : wr.cell? ⟨b, 1, none⟩ = some (.int .i64 ka) := (cell_of HB.out 1).trans rfl
          have e1 : wr.frozen? ⟨b, 1, none⟩ = false := free_of HB.out 1
          by_cases gf : kf = 0
          · have gf1 : (kf == 0) = true := by simp [gf]
            have gf2 : (kf != 0) = false := by simp [gf]
            have HG1 : Hid _ := HG.out gf
            clear HF HG gf
            by_cases hlt : k < n
            · exfalso; omega
            · have hr : Hid ((Rd.texts ⟨s, at_, f⟩ most) = (l, Rd.keep ⟨ks, ka, kf⟩ at_)) := by
                show _ = _
                rw [HG1.out, show n - k = 0 from by omega]; rfl
              have hk0 : Rd.keep ⟨ks, ka, kf⟩ at_ = ⟨ks, ka, kf⟩ := if_neg (by simpa using gf2)
              rw [hk0] at hr
              clear hk0
              have hsl := hown.slAt
              clear HG1 HLn hown
              go_wp2
              go_ret
              rw [hr.out]
              exact ⟨_, rfl, hsl, HB.out, mr⟩
          · have gf1 : (kf == 0) = false := by simpa using gf
            have gf2 : (kf != 0) = true := by simpa using gf
            have hr : Hid ((Rd.texts ⟨s, at_, f⟩ most) = ([], Rd.keep ⟨ks, ka, kf⟩ at_)) := HF.out gf
            have hk0 : Rd.keep ⟨ks, ka, kf⟩ at_ = ⟨ks, at_, kf⟩ := if_pos gf
            rw [hk0] at hr
            clear hk0 HF HG gf hown HLn
            by_cases hlt : k < n
            all_goals first | (exfalso; omega) | (go_wp2; go_ret; rw [hr.out]; exact ⟨_, rfl, .inl ⟨rfl, _, _, rfl⟩, heap_set (HB.out : wr.heap[b]? = _) 1 _, mr.trans (Mod.set1 _ _ _ _)⟩)
      · have g4 : ¬ most < n := by omega
        go_wp2
        rw [HC.out] at HT
        clear HC d2 e2 c0 c1 c2 f1 f2 H h0 HS H1
        go_loopw [7, 8] (fun v i wr => ∃ (k : Nat) (l : List ByteArray) (rk : Rd), k ≤ n ∧ i = .int .i64 k ∧ OwnA wr w.heap.size 1 v l.length (l.map Value.string) ∧ Hid (wr.heap[b]? = some (rrO rk)) ∧ Hid (rk.s = s ∧ rk.at_ ≤ s.size) ∧
          Hid (rk.f = 0 → Rd.texts ⟨s, at_, f⟩ most = ((Rd.textsGo (n - k) rk l).1.getD [], (Rd.textsGo (n - k) rk l).2.keep at_)) ∧ Hid (rk.f ≠ 0 → Rd.texts ⟨s, at_, f⟩ most = ([], rk.keep at_)) ∧ Hid (l.length = k) ∧ Mod (· = b) w wr) (fun _ i _ => n - (intOf i).toNat)
        case atStart => exact ⟨0, [], _, Nat.zero_le _, rfl, OwnA.nil _ _ _, H2, HR, fun _ => HT.out, fun hf => by rw [HT.out, (Rd.textsGo_fault n _ hf).1, (Rd.textsGo_fault n _ hf).2], rfl, m2⟩
        case round =>
          obtain ⟨k, l, rk, hk, rfl, hown, HB, HRk, HG, HF, HLn, mr⟩ := hrel
          obtain ⟨ks, ka, kf⟩ := rk
          have d2 : wr.cell? ⟨b, 2, none⟩ = some (.int .i64 kf) := (cell_of HB.out 2).trans rfl
          have d1 : wr.cell? ⟨b, 1, none⟩ = some (.int .i64 ka) := (cell_of HB.out 1).trans rfl
          have e1 : wr.frozen? ⟨b, 1, none⟩ = false := free_of HB.out 1
          by_cases gf : kf = 0
          · have gf1 : (kf == 0) = true := by simp [gf]
            have gf2 : (kf != 0) = false := by simp [gf]
            have HG1 : Hid _ := HG.out gf
            clear HF HG gf
            by_cases hlt : k < n
            · have hb : b < wr.heap.size := lt_of HB.out
              have HX : Hid (Rd.textsGo (n - k) ⟨ks, ka, kf⟩ l = if (Rd.text ⟨ks, ka, kf⟩).2.f ≠ 0 then (none, (Rd.text ⟨ks, ka, kf⟩).2) else Rd.textsGo (n - (k + 1)) (Rd.text ⟨ks, ka, kf⟩).2 (l ++ [(Rd.text ⟨ks, ka, kf⟩).1])) := by
                show _ = _
                rw [show n - k = (n - (k + 1)) + 1 from by omega]; rfl
              have HRt : Hid ((Rd.text ⟨ks, ka, kf⟩).2.s = s ∧ (Rd.text ⟨ks, ka, kf⟩).2.at_ ≤ s.size) := ⟨(Rd.text_s _).trans HRk.out.1, by have := Rd.text_at ⟨ks, ka, kf⟩ (by rw [HRk.out.1]; exact HRk.out.2); rwa [Rd.text_s, HRk.out.1] at this⟩
              go_wp2_with fail
              refine (rText b _ _ HB.out (by rw [HRk.out.1]; exact hs) (by rw [HRk.out.1]; exact HRk.out.2)).mono ?_
              rintro e w2 ⟨rfl, hT2, mT⟩
              have HB2 := Lib.hid hT2; clear hT2
              clear d1 d2 e1
              generalize (Rd.text ⟨ks, ka, kf⟩).2 = rt at *
              generalize (Rd.text ⟨ks, ka, kf⟩).1 = t at *
              have hown2 := (hown.mod mT (fun k hk e => by omega)).mod (S := fun _ => False) ((Mod.refl _ w2).alloc (.cells #[.string t] 9)) (fun _ _ x => x)
              have hlb : l.length ≤ 65536 := by have := HLn.out; omega
              have C1 : Hid ((l.length + 1) * 16 ≤ 140737488355328) := by show _ ≤ _; omega
              have C2 : Hid (l.length + 1 ≤ 9223372036854775807) := by show _ ≤ _; omega
              have C3 : Hid (w.heap.size ≤ (w2.alloc (.cells #[.string t] 9)).heap.size) := by show _ ≤ _; rw [World.size_alloc]; have := (mr.trans mT).size; omega
              have C4 : Hid (∀ u ∈ ([Value.string t] : List Value), u.oneCell' = true) := by intro u hu; rcases List.mem_singleton.1 hu with rfl; rfl
              have C5 : Hid (Src Try.prog 1 29 (.slice (some ⟨w2.heap.size, 0, none⟩) 1 1) 1 [.string t] (w2.alloc (.cells #[.string t] 9))) := Src.ofSlice _ Try.underlying29 _ _ _ _ rfl (new_one _ _ _) C4.out
              go_wp2_with (refine wpl_append rfl (.tmp 43) (.tmp 46) _ _ rfl w.heap.size 9 (.string ByteArray.empty) 1 16 Try.underlying29 info_string rfl (by decide) _ _ _ rfl hown2 _ _ _ rfl C5.out C1.out C2.out C3.out ?_; intro v' w3 hown' hgrow)
              go_roundw
              case rel =>
                have m3 := hown2.thenMod ((mr.trans mT).alloc _) hgrow (Nat.le_refl _)
                have HB3 : Hid (w3.heap[b]? = some (rrO rt)) := by
                  show _ = _
                  have hb2 : b < w2.heap.size := Nat.lt_of_lt_of_le hb mT.size
                  rw [hown2.keep hgrow ht (by rw [World.size_alloc]; omega), Below.heap_alloc _ _ _ hb2]; exact HB2.out
                refine ⟨k + 1, l ++ [t], rt, hlt, by go_num, by simpa using hown', HB3, HRt, fun hf => ?_, fun hf => ?_, by show _ = _; rw [List.length_append, HLn.out]; rfl, m3⟩
                · rw [HG1.out, HX.out, if_neg (fun x => x hf)]
                · rw [HG1.out, HX.out, if_pos hf]; rfl
              case measure => simp [intOf]; omega
            · have hr : Hid ((Rd.texts ⟨s, at_, f⟩ most) = (l, Rd.keep ⟨ks, ka, kf⟩ at_)) := by
                show _ = _
                rw [HG1.out, show n - k = 0 from by omega]; rfl
              have hk0 : Rd.keep ⟨ks, ka, kf⟩ at_ = ⟨ks, ka, kf⟩ := if_neg (by simpa using gf2)
              rw [hk0] at hr
              clear hk0
              have hsl := hown.slAt
              clear HG1 HLn hown
              go_wp2
              go_ret
              rw [hr.out]
              exact ⟨_, rfl, hsl, HB.out, mr⟩
          · have gf1 : (kf == 0) = false := by simpa using gf
            have gf2 : (kf != 0) = true := by simpa using gf
            have hr : Hid ((Rd.texts ⟨s, at_, f⟩ most) = ([], Rd.keep ⟨ks, ka, kf⟩ at_)) := HF.out gf
            have hk0 : Rd.keep ⟨ks, ka, kf⟩ at_ = ⟨ks, at_, kf⟩ := if_pos gf
            rw [hk0] at hr
            clear hk0 HF HG gf hown HLn
            by_cases hlt : k < n
            all_goals first | (exfalso; omega) | (go_wp2; go_ret; rw [hr.out]; exact ⟨_, rfl, .inl ⟨rfl, _, _, rfl⟩, heap_set (HB.out : wr.heap[b]? = _) 1 _, mr.trans (Mod.set1 _ _ _ _)⟩)
  · have g1' : (q1 == 0) = false := by simp [g1]
    have HC : Hid (Rd.cap ⟨s1, a1, q1⟩ n most = ⟨s1, a1, q1⟩) := if_neg (fun x => g1 x.1)
    have HR := key.out _ HC
    have H2 := H1
    have m2 := m1
    clear key
    by_cases g3 : most < 0
    · go_wp2
      rw [HC.out] at HT
      clear HC d2 e2 c0 c1 c2 f1 f2 H h0 HS H1
      go_loopw [7, 8] (fun v i wr => ∃ (k : Nat) (l : List ByteArray) (rk : Rd), k ≤ n ∧ i = .int .i64 k ∧ OwnA wr w.heap.size 1 v l.length (l.map Value.string) ∧ Hid (wr.heap[b]? = some (rrO rk)) ∧ Hid (rk.s = s ∧ rk.at_ ≤ s.size) ∧
        Hid (rk.f = 0 → Rd.texts ⟨s, at_, f⟩ most = ((Rd.textsGo (n - k) rk l).1.getD [], (Rd.textsGo (n - k) rk l).2.keep at_)) ∧ Hid (rk.f ≠ 0 → Rd.texts ⟨s, at_, f⟩ most = ([], rk.keep at_)) ∧ Hid (l.length = k) ∧ Mod (· = b) w wr) (fun _ i _ => n - (intOf i).toNat)
      case atStart => exact ⟨0, [], _, Nat.zero_le _, rfl, OwnA.nil _ _ _, H2, HR, fun _ => HT.out, fun hf => by rw [HT.out, (Rd.textsGo_fault n _ hf).1, (Rd.textsGo_fault n _ hf).2], rfl, m2⟩
      case round =>
        obtain ⟨k, l, rk, hk, rfl, hown, HB, HRk, HG, HF, HLn, mr⟩ := hrel
        obtain ⟨ks, ka, kf⟩ := rk
        have d2 : wr.cell? ⟨b, 2, none⟩ = some (.int .i64 kf) := (cell_of HB.out 2).trans rfl
        have d1 : wr.cell? ⟨b, 1, none⟩ = some (.int .i64 ka) := (cell_of HB.out 1).trans rfl
        have e1 : wr.frozen? ⟨b, 1, none⟩ = false := free_of HB.out 1
        by_cases gf : kf = 0
        · have gf1 : (kf == 0) = true := by simp [gf]
          have gf2 : (kf != 0) = false := by simp [gf]
          have HG1 : Hid _ := HG.out gf
          clear HF HG gf
          by_cases hlt : k < n
          · have hb : b < wr.heap.size := lt_of HB.out
            have HX : Hid (Rd.textsGo (n - k) ⟨ks, ka, kf⟩ l = if (Rd.text ⟨ks, ka, kf⟩).2.f ≠ 0 then (none, (Rd.text ⟨ks, ka, kf⟩).2) else Rd.textsGo (n - (k + 1)) (Rd.text ⟨ks, ka, kf⟩).2 (l ++ [(Rd.text ⟨ks, ka, kf⟩).1])) := by
              show _ = _
              rw [show n - k = (n - (k + 1)) + 1 from by omega]; rfl
            have HRt : Hid ((Rd.text ⟨ks, ka, kf⟩).2.s = s ∧ (Rd.text ⟨ks, ka, kf⟩).2.at_ ≤ s.size) := ⟨(Rd.text_s _).trans HRk.out.1, by have := Rd.text_at ⟨ks, ka, kf⟩ (by rw [HRk.out.1]; exact HRk.out.2); rwa [Rd.text_s, HRk.out.1] at this⟩
            go_wp2_with fail
            refine (rText b _ _ HB.out (by rw [HRk.out.1]; exact hs) (by rw [HRk.out.1]; exact HRk.out.2)).mono ?_
            rintro e w2 ⟨rfl, hT2, mT⟩
            have HB2 := Lib.hid hT2; clear hT2
            clear d1 d2 e1
            generalize (Rd.text ⟨ks, ka, kf⟩).2 = rt at *
            generalize (Rd.text ⟨ks, ka, kf⟩).1 = t at *
            have hown2 := (hown.mod mT (fun k hk e => by omega)).mod (S := fun _ => False) ((Mod.refl _ w2).alloc (.cells #[.string t] 9)) (fun _ _ x => x)
            have hlb : l.length ≤ 65536 := by have := HLn.out; omega
            have C1 : Hid ((l.length + 1) * 16 ≤ 140737488355328) := by show _ ≤ _; omega
            have C2 : Hid (l.length + 1 ≤ 9223372036854775807) := by show _ ≤ _; omega
            have C3 : Hid (w.heap.size ≤ (w2.alloc (.cells #[.string t] 9)).heap.size) := by show _ ≤ _; rw [World.size_alloc]; have := (mr.trans mT).size; omega
            have C4 : Hid (∀ u ∈ ([Value.string t] : List Value), u.oneCell' = true) := by intro u hu; rcases List.mem_singleton.1 hu with rfl; rfl
            have C5 : Hid (Src Try.prog 1 29 (.slice (some ⟨w2.heap.size, 0, none⟩) 1 1) 1 [.string t] (w2.alloc (.cells #[.string t] 9))) := Src.ofSlice _ Try.underlying29 _ _ _ _ rfl (new_one _ _ _) C4.out
            go_wp2_with (refine wpl_append rfl (.tmp 43) (.tmp 46) _ _ rfl w.heap.size 9 (.string ByteArray.empty) 1 16 Try.underlying29 info_string rfl (by decide) _ _ _ rfl hown2 _ _ _ rfl C5.out C1.out C2.out C3.out ?_; intro v' w3 hown' hgrow)
            go_roundw
            case rel =>
              have m3 := hown2.thenMod ((mr.trans mT).alloc _) hgrow (Nat.le_refl _)
              have HB3 : Hid (w3.heap[b]? = some (rrO rt)) := by
                show _ = _
                have hb2 : b < w2.heap.size := Nat.lt_of_lt_of_le hb mT.size
                rw [hown2.keep hgrow ht (by rw [World.size_alloc]; omega), Below.heap_alloc _ _ _ hb2]; exact HB2.out
              refine ⟨k + 1, l ++ [t], rt, hlt, by go_num, by simpa using hown', HB3, HRt, fun hf => ?_, fun hf => ?_, by show _ = _; rw [List.length_append, HLn.out]; rfl, m3⟩
              · rw [HG1.out, HX.out, if_neg (fun x => x hf)]
              · rw [HG1.out, HX.out, if_pos hf]; rfl
            case measure => simp [intOf]; omega
          · have hr : Hid ((Rd.texts ⟨s, at_, f⟩ most) = (l, Rd.keep ⟨ks, ka, kf⟩ at_)) := by
              show _ = _
              rw [HG1.out, show n - k = 0 from by omega]; rfl
            have hk0 : Rd.keep ⟨ks, ka, kf⟩ at_ = ⟨ks, ka, kf⟩ := if_neg (by simpa using gf2)
            rw [hk0] at hr
            clear hk0
            have hsl := hown.slAt
            clear HG1 HLn hown
            go_wp2
            go_ret
            rw [hr.out]
            exact ⟨_, rfl, hsl, HB.out, mr⟩
        · have gf1 : (kf == 0) = false := by simpa using gf
          have gf2 : (kf != 0) = true := by simpa using gf
          have hr : Hid ((Rd.texts ⟨s, at_, f⟩ most) = ([], Rd.keep ⟨ks, ka, kf⟩ at_)) := HF.out gf
          have hk0 : Rd.keep ⟨ks, ka, kf⟩ at_ = ⟨ks, at_, kf⟩ := if_pos gf
          rw [hk0] at hr
          clear hk0 HF HG gf hown HLn
          by_cases hlt : k < n
          all_goals first | (exfalso; omega) | (go_wp2; go_ret; rw [hr.out]; exact ⟨_, rfl, .inl ⟨rfl, _, _, rfl⟩, heap_set (HB.out : wr.heap[b]? = _) 1 _, mr.trans (Mod.set1 _ _ _ _)⟩)
    · go_wp2
      rw [HC.out] at HT
      clear HC d2 e2 c0 c1 c2 f1 f2 H h0 HS H1
      go_loopw [7, 8] (fun v i wr => ∃ (k : Nat) (l : List ByteArray) (rk : Rd), k ≤ n ∧ i = .int .i64 k ∧ OwnA wr w.heap.size 1 v l.length (l.map Value.string) ∧ Hid (wr.heap[b]? = some (rrO rk)) ∧ Hid (rk.s = s ∧ rk.at_ ≤ s.size) ∧
        Hid (rk.f = 0 → Rd.texts ⟨s, at_, f⟩ most = ((Rd.textsGo (n - k) rk l).1.getD [], (Rd.textsGo (n - k) rk l).2.keep at_)) ∧ Hid (rk.f ≠ 0 → Rd.texts ⟨s, at_, f⟩ most = ([], rk.keep at_)) ∧ Hid (l.length = k) ∧ Mod (· = b) w wr) (fun _ i _ => n - (intOf i).toNat)
      case atStart => exact ⟨0, [], _, Nat.zero_le _, rfl, OwnA.nil _ _ _, H2, HR, fun _ => HT.out, fun hf => by rw [HT.out, (Rd.textsGo_fault n _ hf).1, (Rd.textsGo_fault n _ hf).2], rfl, m2⟩
      case round =>
        obtain ⟨k, l, rk, hk, rfl, hown, HB, HRk, HG, HF, HLn, mr⟩ := hrel
        obtain ⟨ks, ka, kf⟩ := rk
        have d2 : wr.cell? ⟨b, 2, none⟩ = some (.int .i64 kf) := (cell_of HB.out 2).trans rfl
        have d1 : wr.cell? ⟨b, 1, none⟩ = some (.int .i64 ka) := (cell_of HB.out 1).trans rfl
        have e1 : wr.frozen? ⟨b, 1, none⟩ = false := free_of HB.out 1
        by_cases gf : kf = 0
        · have gf1 : (kf == 0) = true := by simp [gf]
          have gf2 : (kf != 0) = false := by simp [gf]
          have HG1 : Hid _ := HG.out gf
          clear HF HG gf
          by_cases hlt : k < n
          · have hb : b < wr.heap.size := lt_of HB.out
            have HX : Hid (Rd.textsGo (n - k) ⟨ks, ka, kf⟩ l = if (Rd.text ⟨ks, ka, kf⟩).2.f ≠ 0 then (none, (Rd.text ⟨ks, ka, kf⟩).2) else Rd.textsGo (n - (k + 1)) (Rd.text ⟨ks, ka, kf⟩).2 (l ++ [(Rd.text ⟨ks, ka, kf⟩).1])) := by
              show _ = _
              rw [show n - k = (n - (k + 1)) + 1 from by omega]; rfl
            have HRt : Hid ((Rd.text ⟨ks, ka, kf⟩).2.s = s ∧ (Rd.text ⟨ks, ka, kf⟩).2.at_ ≤ s.size) := ⟨(Rd.text_s _).trans HRk.out.1, by have := Rd.text_at ⟨ks, ka, kf⟩ (by rw [HRk.out.1]; exact HRk.out.2); rwa [Rd.text_s, HRk.out.1] at this⟩
            go_wp2_with fail
            refine (rText b _ _ HB.out (by rw [HRk.out.1]; exact hs) (by rw [HRk.out.1]; exact HRk.out.2)).mono ?_
            rintro e w2 ⟨rfl, hT2, mT⟩
            have HB2 := Lib.hid hT2; clear hT2
            clear d1 d2 e1
            generalize (Rd.text ⟨ks, ka, kf⟩).2 = rt at *
            generalize (Rd.text ⟨ks, ka, kf⟩).1 = t at *
            have hown2 := (hown.mod mT (fun k hk e => by omega)).mod (S := fun _ => False) ((Mod.refl _ w2).alloc (.cells #[.string t] 9)) (fun _ _ x => x)
            have hlb : l.length ≤ 65536 := by have := HLn.out; omega
            have C1 : Hid ((l.length + 1) * 16 ≤ 140737488355328) := by show _ ≤ _; omega
            have C2 : Hid (l.length + 1 ≤ 9223372036854775807) := by show _ ≤ _; omega
            have C3 : Hid (w.heap.size ≤ (w2.alloc (.cells #[.string t] 9)).heap.size) := by show _ ≤ _; rw [World.size_alloc]; have := (mr.trans mT).size; omega
            have C4 : Hid (∀ u ∈ ([Value.string t] : List Value), u.oneCell' = true) := by intro u hu; rcases List.mem_singleton.1 hu with rfl; rfl
            have C5 : Hid (Src Try.prog 1 29 (.slice (some ⟨w2.heap.size, 0, none⟩) 1 1) 1 [.string t] (w2.alloc (.cells #[.string t] 9))) := Src.ofSlice _ Try.underlying29 _ _ _ _ rfl (new_one _ _ _) C4.out
            go_wp2_with (refine wpl_append rfl (.tmp 43) (.tmp 46) _ _ rfl w.heap.size 9 (.string ByteArray.empty) 1 16 Try.underlying29 info_string rfl (by decide) _ _ _ rfl hown2 _ _ _ rfl C5.out C1.out C2.out C3.out ?_; intro v' w3 hown' hgrow)
            go_roundw
            case rel =>
              have m3 := hown2.thenMod ((mr.trans mT).alloc _) hgrow (Nat.le_refl _)
              have HB3 : Hid (w3.heap[b]? = some (rrO rt)) := by
                show _ = _
                have hb2 : b < w2.heap.size := Nat.lt_of_lt_of_le hb mT.size
                rw [hown2.keep hgrow ht (by rw [World.size_alloc]; omega), Below.heap_alloc _ _ _ hb2]; exact HB2.out
              refine ⟨k + 1, l ++ [t], rt, hlt, by go_num, by simpa using hown', HB3, HRt, fun hf => ?_, fun hf => ?_, by show _ = _; rw [List.length_append, HLn.out]; rfl, m3⟩
              · rw [HG1.out, HX.out, if_neg (fun x => x hf)]
              · rw [HG1.out, HX.out, if_pos hf]; rfl
            case measure => simp [intOf]; omega
          · have hr : Hid ((Rd.texts ⟨s, at_, f⟩ most) = (l, Rd.keep ⟨ks, ka, kf⟩ at_)) := by
              show _ = _
              rw [HG1.out, show n - k = 0 from by omega]; rfl
            have hk0 : Rd.keep ⟨ks, ka, kf⟩ at_ = ⟨ks, ka, kf⟩ := if_neg (by simpa using gf2)
            rw [hk0] at hr
            clear hk0
            have hsl := hown.slAt
            clear HG1 HLn hown
            go_wp2
            go_ret
            rw [hr.out]
            exact ⟨_, rfl, hsl, HB.out, mr⟩
        · have gf1 : (kf == 0) = false := by simpa using gf
          have gf2 : (kf != 0) = true := by simpa using gf
          have hr : Hid ((Rd.texts ⟨s, at_, f⟩ most) = ([], Rd.keep ⟨ks, ka, kf⟩ at_)) := HF.out gf
          have hk0 : Rd.keep ⟨ks, ka, kf⟩ at_ = ⟨ks, at_, kf⟩ := if_pos gf
          rw [hk0] at hr
          clear hk0 HF HG gf hown HLn
          by_cases hlt : k < n
          all_goals first | (exfalso; omega) | (go_wp2; go_ret; rw [hr.out]; exact ⟨_, rfl, .inl ⟨rfl, _, _, rfl⟩, heap_set (HB.out : wr.heap[b]? = _) 1 _, mr.trans (Mod.set1 _ _ _ _)⟩)
end Go.Proofs.Ythibakgnddmlfaa
