/- Padded texts read: package code's Unpad, and the document's. -/
import Derived.Test.YthibakgnddmlfaaTexts
import Derived.Test.YthibakgnddmlfaaPut
namespace Go.Proofs.Ythibakgnddmlfaa
open Go.RowKit

def allZ (l : List UInt8) : Bool := l.all (· == 0)
theorem allZ_of {l : List UInt8} (h : ∀ j (hj : j < l.length), l[j] = 0) : allZ l = true := by
  unfold allZ
  rw [List.all_eq_true]
  intro x hx
  obtain ⟨j, hj, rfl⟩ := List.getElem_of_mem hx
  simp [h j hj]
theorem allZ_not {l : List UInt8} {j : Nat} (hj : j < l.length) (h : l[j] ≠ 0) : allZ l = false := by
  unfold allZ
  rw [List.all_eq_false]
  exact ⟨l[j], List.getElem_mem hj, by simpa using h⟩

/-- what is left of a reader -/
def Rd.rest (r : Rd) : ByteArray := r.s.extract r.at_ r.s.size
/-- the text of padded bytes, as the code reads it -/
def unpad (s : ByteArray) : ByteArray × Int :=
  if (Rd.num ⟨s, 0, 0⟩ 4).2.f ≠ 0 then (ByteArray.empty, 50) else
  if allZ (((Rd.num ⟨s, 0, 0⟩ 4).2.bytes (Rd.num ⟨s, 0, 0⟩ 4).1).2.rest).data.toList = false then (ByteArray.empty, 51) else
  if ((Rd.num ⟨s, 0, 0⟩ 4).2.bytes (Rd.num ⟨s, 0, 0⟩ 4).1).2.f ≠ 0 then (ByteArray.empty, 51) else
  (((Rd.num ⟨s, 0, 0⟩ 4).2.bytes (Rd.num ⟨s, 0, 0⟩ 4).1).1, 0)

set_option maxHeartbeats 400000 in
theorem new_any (s : ByteArray) (w : World) :
    Calls Try.prog 23 #[.string s] w fun e w' => e = .returned (.pointer (some ⟨w.heap.size, 0, none⟩)) ∧ w' = w.alloc (rdO ⟨s, 0, 0⟩) := by
  go_enter Try.func23, Try.ntmps23
  go_wp2
  go_ret
  exact ⟨rfl, rfl⟩

set_option maxHeartbeats 1000000 in
theorem unpad_w (s : ByteArray) (w : World) (hs : s.size ≤ maxLen) :
    Calls Try.prog 9 #[.string s] w fun e w' => e = .returned (.tuple #[.string (unpad s).1, .int .i64 (unpad s).2]) ∧ Mod (fun _ => False) w w' := by
  go_enter Try.func9, Try.ntmps9
  go_wp2_with fail
  refine (new_any s _).mono ?_
  rintro e w0 ⟨rfl, rfl⟩
  have H0 : Hid ((w.alloc (rdO ⟨s, 0, 0⟩)).heap[w.heap.size]? = some (rdO ⟨s, 0, 0⟩)) := new_at _ _
  have m0 : Mod (fun _ => False) w (w.alloc (rdO ⟨s, 0, 0⟩)) := (Mod.refl _ _).alloc _
  generalize w.alloc (rdO ⟨s, 0, 0⟩) = w0 at *
  have hnl : (Rd.num ⟨s, 0, 0⟩ 4).1 < 4294967296 := Rd.num_lt _ 4
  have hB : Hid (w.heap.size = w.heap.size) := rfl
  go_wp2_with fail
  refine (U32_any w.heap.size ⟨s, 0, 0⟩ _ H0.out hs (Nat.zero_le _)).mono ?_
  rintro e w1 ⟨rfl, h1, m1⟩
  have HS : Hid ((Rd.num ⟨s, 0, 0⟩ 4).2.s.size ≤ maxLen ∧ (Rd.num ⟨s, 0, 0⟩ 4).2.at_ ≤ (Rd.num ⟨s, 0, 0⟩ 4).2.s.size) := ⟨by rw [Rd.num_s]; exact hs, Rd.num_at _ 4 (Nat.zero_le _)⟩
  have HU : Hid (unpad s = if (Rd.num ⟨s, 0, 0⟩ 4).2.f ≠ 0 then (ByteArray.empty, 50) else if allZ (((Rd.num ⟨s, 0, 0⟩ 4).2.bytes (Rd.num ⟨s, 0, 0⟩ 4).1).2.rest).data.toList = false then (ByteArray.empty, 51) else
    if ((Rd.num ⟨s, 0, 0⟩ 4).2.bytes (Rd.num ⟨s, 0, 0⟩ 4).1).2.f ≠ 0 then (ByteArray.empty, 51) else (((Rd.num ⟨s, 0, 0⟩ 4).2.bytes (Rd.num ⟨s, 0, 0⟩ 4).1).1, 0)) := rfl
  generalize (Rd.num ⟨s, 0, 0⟩ 4).2 = r1 at *
  generalize (Rd.num ⟨s, 0, 0⟩ 4).1 = n at *
  have mm1 : Mod (fun _ => False) w w1 := m0.trans' m1 (fun k hk e => by omega)
  generalize hb : w.heap.size = b at *
  obtain ⟨s1, a1, q1⟩ := r1
  have d2 : w1.cell? ⟨b, 2, none⟩ = some (.int .i64 q1) := (cell_of h1 2).trans rfl
  have H1 := Lib.hid h1; clear h1
  have hbw : w.heap.size ≤ b := by omega
  clear hb
  by_cases g1 : q1 = 0
  · have g1' : (q1 != 0) = false := by simp [g1]
    rw [if_neg (fun x => x g1)] at HU
    clear g1
    go_wp2_with fail
    refine (bytes_any b _ n _ H1.out HS.out.1 HS.out.2).mono ?_
    rintro e w2 ⟨rfl, h2, m2⟩
    have HS2 : Hid ((Rd.bytes ⟨s1, a1, q1⟩ n).2.s.size ≤ maxLen ∧ (Rd.bytes ⟨s1, a1, q1⟩ n).2.at_ ≤ (Rd.bytes ⟨s1, a1, q1⟩ n).2.s.size) := ⟨by rw [Rd.bytes_s]; exact HS.out.1, Rd.bytes_at _ n HS.out.2⟩
    generalize (Rd.bytes ⟨s1, a1, q1⟩ n).2 = r2 at *
    generalize (Rd.bytes ⟨s1, a1, q1⟩ n).1 = t at *
    have HQ : Hid (r2.rest.size ≤ maxLen ∧ r2.s.extract r2.at_ r2.s.size = r2.rest) := ⟨by unfold Rd.rest; rw [ByteArray.size_extract]; have := HS2.out.1; omega, rfl⟩
    generalize r2.rest = q at *
    have H2 := Lib.hid h2; clear h2
    clear d2 g1' m1 m0 H0 H1 HS
    go_wp2_with fail
    refine (rest_any b r2 _ H2.out HS2.out.1 HS2.out.2).mono ?_
    rintro e w3 ⟨rfl, nd, rfl⟩
    have hqs := HQ.out.1
    unfold maxLen at hqs
    rw [HQ.out.2]
    have m3 : Mod (fun _ => False) w (w2.drewN nd) := (mm1.trans' m2 (fun k hk e => by omega)).drewN _
    have H3 : Hid ((w2.drewN nd).heap[b]? = some (rdO r2)) := H2.out
    generalize w2.drewN nd = w3 at *
    clear m2 H2 mm1
    go_wp2
    go_loopw [24] (fun i wr => ∃ k : Nat, k ≤ q.size ∧ i = .int .i64 k ∧ Hid (∀ j (hj : j < q.data.toList.length), j < k → q.data.toList[j] = 0) ∧ Hid (wr.heap[b]? = some (rdO r2)) ∧ Mod (fun _ => False) w wr) (fun i _ => q.size - (intOf i).toNat)
    case atStart => exact ⟨0, Nat.zero_le _, rfl, fun j _ hj => absurd hj (Nat.not_lt_zero _), H3, m3⟩
    case round =>
      obtain ⟨k, hk, rfl, HZ, HB, mr⟩ := hrel
      by_cases hlt : k < q.size
      · have hl : k < q.data.toList.length := by rw [Array.length_toList]; exact hlt
        by_cases hz : q.data.toList[k] = 0
        · have hz1 : ((q[k].toNat : Int) != 0) = false := by
            have : q[k] = 0 := hz
            rw [this]; rfl
          have HZ2 : Hid (∀ j (hj : j < q.data.toList.length), j < k + 1 → q.data.toList[j] = 0) := fun j hj hjk => by
            by_cases e : j = k
            · subst e; exact hz
            · exact HZ.out j hj (by omega)
          clear hz HZ
          go_wp2_with fail
          refine (rest_any b r2 _ HB.out HS2.out.1 HS2.out.2).mono ?_
          rintro e w4 ⟨rfl, nd4, rfl⟩
          rw [HQ.out.2]
          go_wp2
          go_roundw
          case rel => exact ⟨k + 1, hlt, by go_num, HZ2, HB, mr.drewN _⟩
          case measure => simp [intOf]; omega
        · have hz1 : ((q[k].toNat : Int) != 0) = true := by
            rw [bne_iff_ne]
            intro e
            apply hz
            have e2 : q[k].toNat = 0 := by omega
            exact UInt8.toNat_inj.1 e2
          have hr : Hid (unpad s = (ByteArray.empty, 51)) := by
            show _ = _
            rw [HU.out, if_pos (allZ_not hl hz)]
          clear hz HZ
          go_wp2_with fail
          refine (rest_any b r2 _ HB.out HS2.out.1 HS2.out.2).mono ?_
          rintro e w4 ⟨rfl, nd4, rfl⟩
          rw [HQ.out.2]
          go_wp2
          go_ret2
          exact ⟨by rw [hr.out]; rfl, mr.drewN _⟩
      · have hall : allZ q.data.toList = true := allZ_of fun j hj => HZ.out j hj (by rw [Array.length_toList] at hj; have : q.data.size = q.size := rfl; omega)
        rw [if_neg (by rw [hall]; simp)] at HU
        clear hall HZ
        obtain ⟨s2, a2, q2⟩ := r2
        have d2 : wr.cell? ⟨b, 2, none⟩ = some (.int .i64 q2) := (cell_of HB.out 2).trans rfl
        by_cases g2 : q2 = 0
        · have g2' : (q2 != 0) = false := by simp [g2]
          rw [if_neg (fun x => x g2)] at HU
          clear g2
          go_wp2
          go_ret2
          exact ⟨by rw [HU.out]; rfl, mr⟩
        · have g2' : (q2 != 0) = true := by simpa using g2
          rw [if_pos g2] at HU
          clear g2
          go_wp2
          go_ret2
          exact ⟨by rw [HU.out]; rfl, mr⟩
  · have g1' : (q1 != 0) = true := by simpa using g1
    rw [if_pos g1] at HU
    clear g1
    go_wp2
    go_ret2
    exact ⟨by rw [HU.out]; rfl, mm1⟩
/-- .. as the document has it -/
def runpad (s : ByteArray) : ByteArray × Int :=
  if s.size < 4 then (ByteArray.empty, 50) else
  if s.size - 4 < (Rd.num ⟨s, 0, 0⟩ 4).1 then (ByteArray.empty, 51) else
  if allZ (s.data.toList.drop (4 + (Rd.num ⟨s, 0, 0⟩ 4).1)) = false then (ByteArray.empty, 51) else
  (s.extract 4 (4 + (Rd.num ⟨s, 0, 0⟩ 4).1), 0)

theorem unpad_eq (s : ByteArray) : unpad s = runpad s := by
  unfold unpad runpad
  by_cases h : s.size < 4
  · have e : (Rd.num ⟨s, 0, 0⟩ 4).2 = ⟨s, 0, 50⟩ := by
      unfold Rd.num Rd.bytes
      simp only
      rw [if_neg (by decide), if_neg (by decide), if_pos (by show s.size < 0 + 4; omega)]
    rw [e, if_pos (show (50 : Int) ≠ 0 by decide), if_pos h]
  · have e : (Rd.num ⟨s, 0, 0⟩ 4).2 = ⟨s, 4, 0⟩ := by
      unfold Rd.num Rd.bytes
      simp only
      rw [if_neg (by decide), if_neg (by decide), if_neg (by show ¬ s.size < 0 + 4; omega)]
      rfl
    rw [e, if_neg (fun x => x rfl), if_neg h]
    generalize (Rd.num ⟨s, 0, 0⟩ 4).1 = n
    by_cases h2 : s.size - 4 < n
    · have e2 : Rd.bytes ⟨s, 4, 0⟩ n = (ByteArray.empty, ⟨s, 4, 50⟩) := by
        unfold Rd.bytes
        simp only
        rw [if_neg (by decide), if_neg (by omega), if_pos (by rw [Int.toNat_natCast]; omega)]
      rw [e2, if_pos h2, if_pos (show (50 : Int) ≠ 0 by decide)]
      split <;> rfl
    · have e2 : Rd.bytes ⟨s, 4, 0⟩ n = (s.extract 4 (4 + n), ⟨s, 4 + n, 0⟩) := by
        unfold Rd.bytes
        simp only
        rw [if_neg (by decide), if_neg (by omega), if_neg (by rw [Int.toNat_natCast]; omega), Int.toNat_natCast]
      rw [e2, if_neg h2, if_neg (show ¬ (0 : Int) ≠ 0 by decide)]
      have e3 : (Rd.rest ⟨s, 4 + n, 0⟩).data.toList = s.data.toList.drop (4 + n) := by
        unfold Rd.rest
        simp only [ByteArray.data_extract, Array.toList_extract, List.extract_eq_take_drop]
        rw [List.take_of_length_le]
        rw [List.length_drop, Array.length_toList]
        exact Nat.le_refl _
      rw [e3]

set_option maxHeartbeats 1000000 in
theorem unpad_r (s : ByteArray) (w : World) (hs : s.size ≤ maxLen) :
    Calls Try.prog 10 #[.string s] w fun e w' => e = .returned (.tuple #[.string (runpad s).1, .int .i64 (runpad s).2]) ∧ Mod (fun _ => False) w w' := by
  have hsl := hs
  unfold maxLen at hs
  have HU : Hid (runpad s = if s.size < 4 then (ByteArray.empty, 50) else if s.size - 4 < (Rd.num ⟨s, 0, 0⟩ 4).1 then (ByteArray.empty, 51) else
    if allZ (s.data.toList.drop (4 + (Rd.num ⟨s, 0, 0⟩ 4).1)) = false then (ByteArray.empty, 51) else (s.extract 4 (4 + (Rd.num ⟨s, 0, 0⟩ 4).1), 0)) := rfl
  by_cases h4 : s.size < 4
  · rw [if_pos h4] at HU
    go_enter Try.func10, Try.ntmps10
    go_wp2
    go_ret2
    exact ⟨by rw [HU.out]; rfl, Mod.refl _ _⟩
  · rw [if_neg h4] at HU
    have H0 : Hid ((w.alloc (rrO ⟨s, 0, 0⟩)).heap[w.heap.size]? = some (rrO ⟨s, 0, 0⟩)) := new_at _ _
    have m0 : Mod (fun _ => False) w (w.alloc (rrO ⟨s, 0, 0⟩)) := (Mod.refl _ _).alloc _
    have hnl : (Rd.num ⟨s, 0, 0⟩ 4).1 < 4294967296 := Rd.num_lt _ 4
    go_enter Try.func10, Try.ntmps10
    go_wp2_with fail
    refine (rNum w.heap.size ⟨s, 0, 0⟩ 4 _ rfl _ H0.out hsl (Nat.zero_le _) (by omega)).mono ?_
    rintro e w1 ⟨rfl, h1, m1⟩
    generalize (Rd.num ⟨s, 0, 0⟩ 4).1 = n at *
    have mm1 : Mod (fun _ => False) w w1 := m0.trans' m1 (fun k hk e => by omega)
    clear h1 m1 m0 H0
    by_cases h5 : s.size - 4 < n
    · rw [if_pos h5] at HU
      have h5' : (s.size : Int) - 4 < n := by omega
      go_wp2
      go_ret2
      exact ⟨by rw [HU.out]; rfl, mm1⟩
    · rw [if_neg h5] at HU
      have h5' : ¬ (s.size : Int) - 4 < n := by omega
      clear h5
      go_wp2
      go_loop [6] (fun i => ∃ k : Nat, 4 + n ≤ k ∧ k ≤ s.size ∧ i = .int .i64 k ∧ Hid (∀ j (hj : j < s.data.toList.length), 4 + n ≤ j → j < k → s.data.toList[j] = 0)) (fun i => s.size - (intOf i).toNat)
      case atStart => exact ⟨4 + n, Nat.le_refl _, by omega, by go_num, fun j _ h1 h2 => by omega⟩
      case round =>
        obtain ⟨k, hk0, hk, rfl, HZ⟩ := hrel
        by_cases hlt : k < s.size
        · have hl : k < s.data.toList.length := by rw [Array.length_toList]; exact hlt
          by_cases hz : s.data.toList[k] = 0
          · have hz1 : ((s[k].toNat : Int) != 0) = false := by
              have : s[k] = 0 := hz
              rw [this]; rfl
            have HZ2 : Hid (∀ j (hj : j < s.data.toList.length), 4 + n ≤ j → j < k + 1 → s.data.toList[j] = 0) := fun j hj hn hjk => by
              by_cases e : j = k
              · subst e; exact hz
              · exact HZ.out j hj hn (by omega)
            clear hz HZ
            go_wp2
            go_round
            case rel => exact ⟨k + 1, by omega, hlt, by go_num, HZ2⟩
            case measure => simp [intOf]; omega
          · have hz1 : ((s[k].toNat : Int) != 0) = true := by
              rw [bne_iff_ne]
              intro e
              apply hz
              have e2 : s[k].toNat = 0 := by omega
              exact UInt8.toNat_inj.1 e2
            have hd : allZ (s.data.toList.drop (4 + n)) = false := by
              refine allZ_not (j := k - (4 + n)) (by rw [List.length_drop]; omega) ?_
              rw [List.getElem_drop]
              simp only [show 4 + n + (k - (4 + n)) = k from by omega]
              exact hz
            rw [if_pos hd] at HU
            clear hz HZ hd
            go_wp2
            go_ret2
            exact ⟨by rw [HU.out]; rfl, mm1⟩
        · have hd : allZ (s.data.toList.drop (4 + n)) = true := allZ_of fun j hj => by
            rw [List.getElem_drop]
            rw [List.length_drop, Array.length_toList] at hj
            have : s.data.size = s.size := rfl
            exact HZ.out _ _ (by omega) (by omega)
          rw [if_neg (by rw [hd]; simp)] at HU
          clear HZ hd
          go_wp2
          go_ret2
          exact ⟨by rw [HU.out]; rfl, mm1⟩
end Go.Proofs.Ythibakgnddmlfaa
