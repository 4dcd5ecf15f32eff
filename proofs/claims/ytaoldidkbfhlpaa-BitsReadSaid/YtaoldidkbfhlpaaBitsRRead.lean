/- The document's Read of the bits, and May. -/
import Derived.Test.YtaoldidkbfhlpaaBitsRef
namespace Go.Proofs.Ytaoldidkbfhlpaa
open Go.RowKit

theorem may_any (n : Int) (w : World) : Calls Try.prog 14 #[.int .i64 n] w fun e w' => e = .returned (.bool (decide (1 ≤ n ∧ n ≤ 16384))) ∧ w' = w := by
  go_enter Try.func14, Try.ntmps14
  by_cases h1 : 1 ≤ n
  · have t1 : decide (1 ≤ n) = true := by simp [h1]
    by_cases h2 : n ≤ 16384
    · have t2 : decide (n ≤ 16384) = true := by simp [h2]
      go_wp2
      go_ret
      exact ⟨ret_bool (decide_eq_true (And.intro h1 h2)).symm, rfl⟩
    · have t2 : decide (n ≤ 16384) = false := by simp; omega
      go_wp2
      go_ret
      exact ⟨rfl, rfl⟩
  · have t1 : decide (1 ≤ n) = false := by simp; omega
    go_wp2
    go_ret
    exact ⟨rfl, rfl⟩

def boolsT (T : Nat → Bool) (k : Nat) : List Value := (List.range k).map fun j => Value.bool (T j)
theorem boolsT_succ (T : Nat → Bool) (k : Nat) : boolsT T (k + 1) = boolsT T k ++ [.bool (T k)] := by simp [boolsT, List.range_succ]
theorem boolsT_length (T : Nat → Bool) (k : Nat) : (boolsT T k).length = k := by simp [boolsT]
theorem boolsT_get (T : Nat → Bool) (k j : Nat) (h : j < k) : (boolsT T k)[j]? = some (.bool (T j)) := by simp [boolsT, List.getElem?_range h]
theorem sbit_eq (s : ByteArray) (k : Nat) (h : k / 8 < s.size) : (bits BinOp.and IntKind.u8 ((s[k / 8].toNat : Int) / 2 ^ (k % 8)) 1 == 1) = sbit s k := by
  rw [and1_u8 _ _ (UInt8.toNat_lt _)]
  unfold sbit
  rw [getD_at s _ h]
  generalize s[k / 8].toNat / 2 ^ (k % 8) % 2 = y
  rw [Bool.eq_iff_iff]
  simp
  omega

theorem sbit_eq' (s : ByteArray) (k : Nat) (h : ((k : Int) / 8).toNat < s.size) : (bits BinOp.and IntKind.u8 ((s[((k : Int) / 8).toNat].toNat : Int) / 2 ^ ((k : Int) % 8).toNat) 1 == 1) = sbit s k := by
  have h1 : ((k : Int) / 8).toNat = k / 8 := by omega
  have h2 : ((k : Int) % 8).toNat = k % 8 := by omega
  simp only [h1, h2]
  exact sbit_eq s k (by omega)

set_option maxHeartbeats 4000000 in
theorem rread_any (s : ByteArray) (n : Nat) (w : World) (h1 : 1 ≤ n) (h2 : n ≤ 16384) (hs : s.size ≤ maxLen) :
    Calls Try.prog 15 #[.string s, .int .i64 n] w fun e w' =>
      e = .returned (.tuple #[.pointer (readP s n w.heap.size), .int .i64 (readE s n)]) ∧ (readE s n = 0 → ∃ g cap, w.heap.size ≤ g ∧ RefAt w' w.heap.size g n cap (readT s n)) ∧ Mod (fun _ => False) w w' := by
  unfold maxLen at hs
  go_enter Try.func15, Try.ntmps15
  by_cases hsh : s.size < (n + 7) / 8
  · have t1 : decide ((s.size : Int) < ((n : Int) + 7) / 8) = true := by simp; omega
    go_wp2
    go_ret2
    have hq := readE_short hsh
    unfold readP
    rw [hq]
    exact ⟨rfl, fun h => (by cases h), Mod.refl _ _⟩
  · have t1 : decide ((s.size : Int) < ((n : Int) + 7) / 8) = false := by simp; omega
    go_wp2
    have H0 : Hid ((w.alloc (.cells #[.slice none 0 0] 57)).heap[w.heap.size]? = some (.cells #[.slice none 0 0] 57 (0, 0))) := new_at _ _
    go_loopw [8] (fun i wr => ∃ (k : Nat) (v : Value), k ≤ n ∧ i = .int .i64 k ∧ Hid (wr.heap[w.heap.size]? = some (.cells #[v] 57 (0, 0))) ∧ OwnA wr (w.heap.size + 1) 1 v k (boolsT (sbit s) k) ∧ Hid (Mod (fun _ => False) w wr)) (fun i _ => n - (intOf i).toNat)
    case atStart => exact ⟨0, _, Nat.zero_le _, rfl, H0, OwnA.nil _ _ _, (Mod.refl _ w).alloc _⟩
    case round =>
      obtain ⟨k, v, hk, rfl, HR, hown, HM⟩ := hrel
      by_cases hlt : k < n
      · have t2 : decide (k < n) = true := by simp [hlt]
        have c1 : wr.cell? ⟨w.heap.size, 0, none⟩ = some v := (cell_of HR.out 0).trans rfl
        have f1 : wr.frozen? ⟨w.heap.size, 0, none⟩ = false := free_of HR.out 0
        have i2 : (k : Int) / 8 < s.size := by omega
        have i3 : (0 : Int) ≤ (k : Int) / 8 := by omega
        have i5 : k / 8 < s.size := by omega
        have e1 := sbit_eq' s k (by omega)
        have q1 : IntKind.i64.wrap ((k : Int) / 8) = (k : Int) / 8 := by rw [IntKind.wrap_i64]; omega
        have q2 : IntKind.u64.wrap (Int.tmod (k : Int) 8) = (k : Int) % 8 := by rw [IntKind.wrap_u64, Int.tmod_eq_emod_of_nonneg (by omega)]; omega
        have A1 : Hid (OwnA (wr.alloc (.cells #[.bool (sbit s k)] 4)).drew (w.heap.size + 1) 1 v k (boolsT (sbit s) k)) := hown.mod ((Mod.refl (fun _ => False) wr).alloc _).drew (fun _ _ x => x)
        have A2 : Hid (Src Try.prog 1 23 (.slice (some ⟨wr.heap.size, 0, none⟩) 1 1) 1 [.bool (sbit s k)] (wr.alloc (.cells #[.bool (sbit s k)] 4)).drew) := Src.ofSlice _ Try.underlying23 _ _ _ _ rfl (new_one wr _ _) (by intro u hu; rcases List.mem_singleton.1 hu with rfl; rfl)
        have A3 : Hid (w.heap.size < wr.heap.size) := lt_of HR.out
        have A5 : Hid (∀ w3, Mod (fun k => some k = v.ownBlock) (wr.alloc (.cells #[.bool (sbit s k)] 4)).drew w3 → w3.heap[w.heap.size]? = some (.cells #[v] 57 (0, 0))) := fun w3 hg => by
          rw [A1.out.keep hg (Nat.lt_succ_self _) (by have := A3.out; simp; omega)]
          exact alloc_keep HR.out
        have c2 : (wr.alloc (.cells #[.bool (sbit s k)] 4)).cell? ⟨w.heap.size, 0, none⟩ = some v := (cell_of (alloc_keep HR.out) 0).trans rfl
        go_wp2
        refine wp_region_any (by kernel_rfl) ?_
        change wpAny _ _ _ _ _ _ _ (World.drew _)
        refine wpAny_take (i := 0) (v := ?_) rfl (by kernel_rfl) (by kernel_rfl) (by kernel_rfl) (fun _ _ _ h => h) (Or.inl ⟨by rfl, ?_⟩) ?_
        rotate_left
        · intro w; go_simp
          all_goals with_reducible rfl
        refine wpAny_take (i := 1) (v := ?_) rfl (by kernel_rfl) (by kernel_rfl) (by kernel_rfl) (fun _ _ _ h => h) (Or.inl ⟨by rfl, ?_⟩) ?_
        rotate_left
        · intro w; go_simp
          all_goals with_reducible rfl
        refine wpAny_take (i := 2) (v := ?_) rfl (by kernel_rfl) (by kernel_rfl) (by kernel_rfl) (fun _ _ _ h => h) (Or.inl ⟨by rfl, ?_⟩) ?_
        rotate_left
        · intro w; go_simp
          all_goals with_reducible rfl
        refine wpAny_take (i := 3) (v := ?_) rfl (by kernel_rfl) (by kernel_rfl) (by kernel_rfl) (fun _ _ _ h => h) (Or.inl ⟨by rfl, ?_⟩) ?_
        rotate_left
        · intro w; go_simp
          all_goals with_reducible rfl
        refine wpAny_take (i := 5) (v := ?_) rfl (by kernel_rfl) (by kernel_rfl) (by kernel_rfl) (fun _ _ _ h => h) (Or.inl ⟨by rfl, ?_⟩) ?_
        rotate_left
        · intro w; go_simp
          all_goals with_reducible rfl
        refine wpAny_take (i := 6) (v := ?_) rfl (by kernel_rfl) (by kernel_rfl) (by kernel_rfl) (fun _ _ _ h => h) (Or.inl ⟨by rfl, ?_⟩) ?_
        rotate_left
        · intro w; go_simp
          all_goals with_reducible rfl
        refine wpAny_take (i := 7) (v := ?_) rfl (by kernel_rfl) (by kernel_rfl) (by kernel_rfl) (fun _ _ _ h => h) (Or.inl ⟨by rfl, ?_⟩) ?_
        rotate_left
        · intro w; go_simp
          all_goals with_reducible rfl
        refine wpAny_take (i := 8) (v := ?_) rfl (by kernel_rfl) (by kernel_rfl) (by kernel_rfl) (fun _ _ _ h => h) (Or.inl ⟨by rfl, ?_⟩) ?_
        rotate_left
        · intro w; go_simp
          all_goals with_reducible rfl
        refine wpAny_take (i := 9) (v := ?_) rfl (by kernel_rfl) (by kernel_rfl) (by kernel_rfl) (fun _ _ _ h => h) (Or.inl ⟨by rfl, ?_⟩) ?_
        rotate_left
        · intro w; go_simp
          all_goals with_reducible rfl
        refine wpAny_take (i := 10) (v := ?_) rfl (by kernel_rfl) (by kernel_rfl) (by kernel_rfl) (fun _ _ _ h => h) (Or.inl ⟨by rfl, ?_⟩) ?_
        rotate_left
        · intro w; go_simp
          all_goals with_reducible rfl
        refine wpAny_take (i := 11) (v := ?_) rfl (by kernel_rfl) (by kernel_rfl) (by kernel_rfl) (fun _ _ _ h => h) (Or.inl ⟨by rfl, ?_⟩) ?_
        rotate_left
        · intro w; go_simp
          all_goals with_reducible rfl
        refine wpAny_take (i := 12) (v := ?_) rfl (by kernel_rfl) (by kernel_rfl) (by kernel_rfl) (fun _ _ _ h => h) (Or.inl ⟨by rfl, ?_⟩) ?_
        rotate_left
        · intro w; go_simp
          all_goals with_reducible rfl
        refine wpAny_take (i := 13) (v := ?_) rfl (by kernel_rfl) (by kernel_rfl) (by kernel_rfl) (fun _ _ _ h => h) (Or.inl ⟨by rfl, ?_⟩) ?_
        rotate_left
        · intro w; go_simp
          all_goals with_reducible rfl
        refine wpAny_take (i := 14) (v := ?_) rfl (by kernel_rfl) (by kernel_rfl) (by kernel_rfl) (fun _ _ _ h => h) (Or.inl ⟨by rfl, ?_⟩) ?_
        rotate_left
        · intro w; go_simp
          all_goals with_reducible rfl
        refine wpAny_ready (rs := [4, 15]) (by kernel_rfl) (by simp) ?_
        refine AllReady.cons rfl (fun K hK => ?_) ?_
        rotate_left
        refine AllReady.cons rfl (fun K hK => ?_) AllReady.nil
        · go_simp
          refine hK _ _ ?_; clear hK K
          refine wpAny_ready (rs := [4]) (by kernel_rfl) (by simp) ?_
          refine AllReady.cons rfl (fun K hK => ?_) AllReady.nil
          go_simp
          refine hK _ _ ?_; clear hK K
          refine wpAny_ready (rs := [16]) (by kernel_rfl) (by simp) ?_
          refine AllReady.cons rfl (fun K hK => ?_) AllReady.nil
          refine Eq.mpr (if_pos ?hwant) ?_
          case hwant => rfl
          refine op_append (.tmp 27) (.tmp 38) _ _ rfl (w.heap.size + 1) 4 (.bool false) 1 1 Try.underlying23 info_bool rfl (by decide) v k (boolsT (sbit s) k) rfl A1.out (.slice (some ⟨wr.heap.size, 0, none⟩) 1 1) 1 [.bool (sbit s k)] rfl A2.out (by omega) (by omega) (by simp; have := A3.out; omega) ?_
          rintro v' w3 hown3 hgrow
          obtain ⟨g', cap', rfl⟩ := hown3.succ
          refine hK _ _ ?_; clear hK K
          have A4 := Lib.hid (A5.out w3 hgrow)
          have A6 := Lib.hid hown3; clear hown3
          have A7 := Lib.hid hgrow; clear hgrow
          have d1 : w3.cell? ⟨w.heap.size, 0, none⟩ = some v := (cell_of A4.out 0).trans rfl
          have d2 : w3.frozen? ⟨w.heap.size, 0, none⟩ = false := free_of A4.out 0
          refine wpAny_take (i := 17) (v := ?_) rfl (by kernel_rfl) (by kernel_rfl) (by kernel_rfl) (fun _ _ _ h => h) (Or.inl ⟨by rfl, ?_⟩) ?_
          rotate_left
          · intro w; go_simp
            all_goals with_reducible rfl
          refine wpAny_take (i := 18) (v := ?_) rfl (by kernel_rfl) (by kernel_rfl) (by kernel_rfl) (fun _ _ _ h => h) (Or.inl ⟨by rfl, ?_⟩) ?_
          rotate_left
          · intro w; go_simp
            all_goals with_reducible rfl
          refine wpAny_ready (rs := [19]) (by kernel_rfl) (by simp) ?_
          refine AllReady.cons rfl (fun K hK => ?_) AllReady.nil
          go_simp
          refine hK _ _ ?_; clear hK K
          refine wpAny_done (by kernel_rfl) ?_ _
          go_wp2
          go_roundw
          case rel =>
            refine ⟨k + 1, _, hlt, by go_num, heap_set A4.out 0 _, ?_, ?_⟩
            · rw [boolsT_succ]
              exact A6.out.mod (Mod.set1 w3 w.heap.size 0 _) (fun j hj e => by omega)
            · exact (((HM.out.alloc _).drew).trans' A7.out (fun j hj e => by have := (A1.out.lt j e).1; omega)).setCell (p := ⟨w.heap.size, 0, none⟩) (Or.inr (Nat.le_refl _)) _
          case measure => simp [intOf]; omega
        · go_simp
          refine hK _ _ ?_; clear hK K
          refine wpAny_ready (rs := [15]) (by kernel_rfl) (by simp) ?_
          refine AllReady.cons rfl (fun K hK => ?_) AllReady.nil
          go_simp
          refine hK _ _ ?_; clear hK K
          refine wpAny_ready (rs := [16]) (by kernel_rfl) (by simp) ?_
          refine AllReady.cons rfl (fun K hK => ?_) AllReady.nil
          refine Eq.mpr (if_pos ?hwant) ?_
          case hwant => rfl
          refine op_append (.tmp 27) (.tmp 38) _ _ rfl (w.heap.size + 1) 4 (.bool false) 1 1 Try.underlying23 info_bool rfl (by decide) v k (boolsT (sbit s) k) rfl A1.out (.slice (some ⟨wr.heap.size, 0, none⟩) 1 1) 1 [.bool (sbit s k)] rfl A2.out (by omega) (by omega) (by simp; have := A3.out; omega) ?_
          rintro v' w3 hown3 hgrow
          obtain ⟨g', cap', rfl⟩ := hown3.succ
          refine hK _ _ ?_; clear hK K
          have A4 := Lib.hid (A5.out w3 hgrow)
          have A6 := Lib.hid hown3; clear hown3
          have A7 := Lib.hid hgrow; clear hgrow
          have d1 : w3.cell? ⟨w.heap.size, 0, none⟩ = some v := (cell_of A4.out 0).trans rfl
          have d2 : w3.frozen? ⟨w.heap.size, 0, none⟩ = false := free_of A4.out 0
          refine wpAny_take (i := 17) (v := ?_) rfl (by kernel_rfl) (by kernel_rfl) (by kernel_rfl) (fun _ _ _ h => h) (Or.inl ⟨by rfl, ?_⟩) ?_
          rotate_left
          · intro w; go_simp
            all_goals with_reducible rfl
          refine wpAny_take (i := 18) (v := ?_) rfl (by kernel_rfl) (by kernel_rfl) (by kernel_rfl) (fun _ _ _ h => h) (Or.inl ⟨by rfl, ?_⟩) ?_
          rotate_left
          · intro w; go_simp
            all_goals with_reducible rfl
          refine wpAny_ready (rs := [19]) (by kernel_rfl) (by simp) ?_
          refine AllReady.cons rfl (fun K hK => ?_) AllReady.nil
          go_simp
          refine hK _ _ ?_; clear hK K
          refine wpAny_done (by kernel_rfl) ?_ _
          go_wp2
          go_roundw
          case rel =>
            refine ⟨k + 1, _, hlt, by go_num, heap_set A4.out 0 _, ?_, ?_⟩
            · rw [boolsT_succ]
              exact A6.out.mod (Mod.set1 w3 w.heap.size 0 _) (fun j hj e => by omega)
            · exact (((HM.out.alloc _).drew).trans' A7.out (fun j hj e => by have := (A1.out.lt j e).1; omega)).setCell (p := ⟨w.heap.size, 0, none⟩) (Or.inr (Nat.le_refl _)) _
          case measure => simp [intOf]; omega
      · have t2 : decide (k < n) = false := by simp; omega
        obtain rfl : k = n := by omega
        obtain ⟨_, ⟨_, h0⟩ | ⟨g, cap, rfl, hbg, hgl, _, _, _, hcs⟩⟩ := hown
        · omega
        · have hRef : RefAt wr w.heap.size g k cap (readT s k) := ⟨HR.out, hgl, fun j hj => by
            rw [hcs j _ (boolsT_get _ _ _ hj)]
            simp [readT, hj], h1, h2⟩
          have hgg : w.heap.size ≤ g := by omega
          have HRef := Lib.hid hRef; clear hRef hcs
          go_wp2_with fail
          refine (rbytes_any w.heap.size g k cap (readT s k) _ HRef.out (fun i hi => by simp [readT]; omega)).mono ?_
          rintro e w2 ⟨rfl, hm2⟩
          have HM2 := Lib.hid hm2; clear hm2
          by_cases hq : bs (bytesT (readT s k) ((k + 7) / 8)) = s
          · have hq2 := readE_ok hsh hq
            have t3 : ((bs (bytesT (readT s k) ((k + 7) / 8))).toList == s.toList) = true := by rw [hq]; exact beq_self_eq_true _
            have HQ := Lib.hid hq2; clear hq2
            go_wp2
            go_ret2
            unfold readP
            rw [HQ.out]
            exact ⟨rfl, fun _ => ⟨g, cap, hgg, HRef.out.mod HM2.out (fun x => x) (fun x => x)⟩, HM.out.trans HM2.out⟩
          · have hq2 := readE_form hsh hq
            have t3 : ((bs (bytesT (readT s k) ((k + 7) / 8))).toList == s.toList) = false := str_ne hq
            have HQ := Lib.hid hq2; clear hq2
            go_wp2
            go_ret2
            unfold readP
            rw [HQ.out]
            exact ⟨rfl, fun h => (by cases h), HM.out.trans HM2.out⟩
end Go.Proofs.Ytaoldidkbfhlpaa
