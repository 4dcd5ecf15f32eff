/-
  PROVED HERE: for every int n, every []int classes and every []bool back the law BitsApart returns true: what is taken is no one else's till it is given, a run is the first that there is, and all that was given leaves the bits as they were. No conditions.
-/
import Derived.Test.YtaoldidkbfhlpaaLawInts
import Derived.Test.YtaoldidkbfhlpaaBitsAlive
import Derived.Test.YtaoldidkbfhlpaaApRows
import Derived.Lib.QuietBelow
import Derived.Deep.CutRange
namespace Go.Proofs.Ytaoldidkbfhlpaa.bitsApart
open Go.ChangeShapes Go.WideShapes Go.ChangeAt Go.RowKit Go.Sort

theorem tie_take {n : Nat} {T : Nat → Bool} {ow : Nat → Int} (h : ∀ j, j < n → (T j = true ↔ ow j ≠ 0)) (X m : Nat) (v : Int) (hv : v ≠ 0) : ∀ j, j < n → (putN T X m true j = true ↔ oput ow X m v j ≠ 0) := by
  intro j hj
  unfold putN oput
  by_cases e : X ≤ j ∧ j < X + m
  · rw [if_pos e, if_pos e]; simp [hv]
  · rw [if_neg e, if_neg e]; exact h j hj
theorem tie_back {n : Nat} {T : Nat → Bool} {ow : Nat → Int} (h : ∀ j, j < n → (T j = true ↔ ow j ≠ 0)) (X m : Nat) (v : Int) (hf : areT T X m false = true) : ∀ j, j < n → (T j = true ↔ oput (oput ow X m v) X m 0 j ≠ 0) := by
  intro j hj
  unfold oput
  by_cases e : X ≤ j ∧ j < X + m
  · rw [if_pos e, areT_all hf j e.1 e.2]; simp
  · rw [if_neg e, if_neg e]; exact h j hj
set_option maxRecDepth 100000 in
set_option maxHeartbeats 4000000 in
theorem walk (n : Int) (a1 : Option Addr) (len cap1 : Nat) (C : Nat → Int) (a2 : Option Addr) (lenB capB : Nat) (B : Nat → Bool) (w : World) (hlen : len ≤ maxLen) (_hlenB : lenB ≤ maxLen)
    (H1 : ∀ i, i < len → ∃ g off, a1 = some ⟨g, off, none⟩ ∧ g < w.heap.size ∧ w.cell? ⟨g, off + i, none⟩ = some (.int .i64 (C i)))
    (H2 : ∀ i, i < lenB → ∃ g off, a2 = some ⟨g, off, none⟩ ∧ g < w.heap.size ∧ w.cell? ⟨g, off + i, none⟩ = some (.bool (B i))) :
    Calls Try.prog 3 #[.int .i64 n, .slice a1 len cap1, .slice a2 lenB capB] w fun e w' => e = .returned (.bool true) ∧ Mod (fun _ => False) w w' := by
  unfold maxLen at hlen _hlenB
  have HH1 := Lib.hid H1; clear H1
  have HH2 := Lib.hid H2; clear H2
  go_enter Try.func3, Try.ntmps3
  by_cases h1 : n < 1
  · have t1 : decide (n < 1) = true := by simp [h1]
    go_wp2_with fail
    refine (alive_any _).mono ?_
    rintro e w9 ⟨rfl, m9⟩
    go_wp2
    go_ret
    exact ⟨rfl, m9⟩
  have t1 : decide (n < 1) = false := by simp; omega
  by_cases h2 : 300 < n
  · have t2 : decide (300 < n) = true := by simp [h2]
    go_wp2_with fail
    refine (alive_any _).mono ?_
    rintro e w9 ⟨rfl, m9⟩
    go_wp2
    go_ret
    exact ⟨rfl, m9⟩
  have t2 : decide (300 < n) = false := by simp; omega
  by_cases h3 : 60 < len
  · have t3 : decide (60 < (len : Int)) = true := by simp; omega
    go_wp2_with fail
    refine (alive_any _).mono ?_
    rintro e w9 ⟨rfl, m9⟩
    go_wp2
    go_ret
    exact ⟨rfl, m9⟩
  have t3 : decide (60 < (len : Int)) = false := by simp; omega
  obtain ⟨N, rfl⟩ : ∃ k : Nat, n = k := ⟨n.toNat, by omega⟩
  have hN1 : 1 ≤ N := by omega
  have hN2 : N ≤ 300 := by omega
  have hlen2 : len ≤ 60 := by omega
  clear h1 h2 h3
  have hnew := new_any N w hN1 (by omega)
  obtain ⟨b, hb⟩ : ∃ b, w.heap.size + 1 = b := ⟨_, rfl⟩
  obtain ⟨g, hg⟩ : ∃ g, w.heap.size = g := ⟨_, rfl⟩
  have hgl : w.heap.size ≤ g := by omega
  have hbl : w.heap.size ≤ b := by omega
  rw [hb, hg] at hnew
  clear hb hg
  have hmk := make_rowI (P := Try.prog) 22 3 (.int .i64 0) 8 N (N : Int) rfl Try.underlying22 info_int rfl (by omega) (by unfold maxLen; omega)
  rw [orow_zero] at hmk
  go_wp2_with fail
  refine hnew.mono ?_
  rintro e w1 ⟨rfl, hB, hm⟩
  have HB := Lib.hid hB; clear hB hnew
  have HM := Lib.hid hm; clear hm
  go_wp2
  clear hmk t1 t2 t3
  have hR0 : Rows (w1.alloc (.cells (orow (fun _ => 0) N).toArray 3)) w1.heap.size (w1.heap.size + 1) N (fun _ => 0) [] [] (.slice none 0 0) (.slice none 0 0) := ⟨new_at _ _, OwnA.nil _ _ _, OwnA.nil _ _ _, Nat.lt_succ_self _, fun k h => (by cases h)⟩
  have hB0 : BitsAt (w1.alloc (.cells (orow (fun _ => 0) N).toArray 3)) b g N (fun _ => false) := HB.out.mod ((Mod.refl (fun _ => False) _).alloc _) (fun x => x) (fun x => x)
  have hM0 : Mod (fun _ => False) w (w1.alloc (.cells (orow (fun _ => 0) N).toArray 3)) := HM.out.alloc _
  have hbo : b < w1.heap.size := lt_of HB.out.hb
  have hgo : g < w1.heap.size := lt_of HB.out.hg
  have hwo : w.heap.size ≤ w1.heap.size := HM.out.size
  generalize w1.alloc (.cells (orow (fun _ => 0) N).toArray 3) = W0 at *
  generalize w1.heap.size = o at *
  clear HB HM
  have HB0 := Lib.hid hB0; have HR0 := Lib.hid hR0; have HM0 := Lib.hid hM0
  clear hB0 hR0 hM0
  go_loopw [10, 11, 12] (fun vA vZ i wr => ∃ (k : Nat) (T : Nat → Bool) (ow : Nat → Int) (P : List (Nat × Nat)), k ≤ len ∧ i = .int .i64 k ∧ Hid (P.length ≤ k) ∧ Hid (BitsAt wr b g N T) ∧ Hid (Rows wr o (o + 1) N ow (P.map (·.1)) (P.map (·.2)) vA vZ) ∧ Hid (Held N T P ∧ ∀ j, j < N → (T j = true ↔ ow j ≠ 0)) ∧ Hid (Mod (fun _ => False) w wr)) (fun _ _ i _ => len - (intOf i).toNat)
  case atStart => exact ⟨0, _, _, [], Nat.zero_le _, rfl, Nat.le_refl _, HB0, HR0, ⟨Held.nil N, fun j _ => by simp⟩, HM0⟩
  case round =>
    obtain ⟨k, T, ow, P, hk, rfl, HPl, HBk, HRk, HH, HMk⟩ := hrel
    by_cases hlt : k < len
    · have t1 : decide (k < len) = true := by simp [hlt]
      obtain ⟨gc, offc, rfl, hgc, hcell⟩ := HH1.out k hlt
      have c1 : wr.cell? ⟨gc, offc + k, none⟩ = some (.int .i64 (C k)) := (World.cell?_of_block (a := ⟨gc, offc + k, none⟩) (HMk.out.block gc hgc (fun x => x))).trans hcell
      clear hcell
      generalize C k = c at *
      by_cases hc : c < 0 ∨ 4 < c
      · have hq : takeR N T c = (0, 2, T) := by unfold takeR; rw [if_pos hc]
        have hT := Take_any b g N T c wr HBk.out
        rw [hq] at hT
        clear hq
        by_cases hc0 : c < 0
        · have u1 : decide (0 ≤ c) = false := by simp; omega
          go_wp2_with fail
          refine hT.mono ?_
          rintro e w2 ⟨rfl, hb2, hm2⟩
          have c2 : w2.cell? ⟨gc, offc + k, none⟩ = some (.int .i64 c) := (World.cell?_of_block (a := ⟨gc, offc + k, none⟩) (hm2.block gc (lt_of_cell c1) (fun e => by omega))).trans c1
          have HB2 := Lib.hid hb2
          have HM2 := Lib.hid (HMk.out.trans' hm2 (fun j hj e => by omega) : Mod (fun _ => False) w w2)
          have HR2 : Hid (Rows w2 o (o + 1) N ow (P.map (·.1)) (P.map (·.2)) u10 u11) := HRk.out.mod hm2 (by omega) (fun j hj e => by omega)
          have k2 := cell_regrown c2
          have cLarg := fun d os => Calls.regrown_of (w := w2) (d := d) (os := os) ((Largest_any b g N T _ (hb2.mod (S := fun _ => False) (Mod.of_below (below_regrown w2 d os)) (fun x => x) (fun x => x))).mono fun e w' ⟨q1, q2⟩ => ⟨q1, q2.below⟩)
          clear hT hb2 hm2
          go_wp2
          refine wp_region_quiet_below (by kernel_rfl) (by kernel_rfl) ?_
          repeat (go_big_quiet_step ((go_at_call 9; exact cLarg _ _)))
          refine wpQuiet_nil ?_
          intro _ hw'
          obtain ⟨⟨dq, osq⟩, hw''⟩ := hw'
          subst hw''
          have hmq : Mod (fun _ => False) w2 (grow (redrawn w2 dq) osq) := Mod.of_below (below_regrown w2 dq osq)
          clear k2 cLarg
          generalize grow (redrawn w2 dq) osq = w3 at *
          go_wp2
          go_roundw
          case rel => exact ⟨k + 1, T, ow, P, hlt, by go_num, Nat.le_succ_of_le HPl.out, HB2.out.mod hmq (fun x => x) (fun x => x), HR2.out.mod hmq (fun x => x) (fun _ _ x => x), HH, HM2.out.trans hmq⟩
          case measure => simp [intOf]; omega
        · have u1 : decide (0 ≤ c) = true := by simp; omega
          have u2 : decide (c ≤ 4) = false := by simp; omega
          go_wp2_with fail
          refine hT.mono ?_
          rintro e w2 ⟨rfl, hb2, hm2⟩
          have c2 : w2.cell? ⟨gc, offc + k, none⟩ = some (.int .i64 c) := (World.cell?_of_block (a := ⟨gc, offc + k, none⟩) (hm2.block gc (lt_of_cell c1) (fun e => by omega))).trans c1
          have HB2 := Lib.hid hb2
          have HM2 := Lib.hid (HMk.out.trans' hm2 (fun j hj e => by omega) : Mod (fun _ => False) w w2)
          have HR2 : Hid (Rows w2 o (o + 1) N ow (P.map (·.1)) (P.map (·.2)) u10 u11) := HRk.out.mod hm2 (by omega) (fun j hj e => by omega)
          have k2 := cell_regrown c2
          have cLarg := fun d os => Calls.regrown_of (w := w2) (d := d) (os := os) ((Largest_any b g N T _ (hb2.mod (S := fun _ => False) (Mod.of_below (below_regrown w2 d os)) (fun x => x) (fun x => x))).mono fun e w' ⟨q1, q2⟩ => ⟨q1, q2.below⟩)
          clear hT hb2 hm2
          go_wp2
          refine wp_region_quiet_below (by kernel_rfl) (by kernel_rfl) ?_
          repeat (go_big_quiet_step ((go_at_call 9; exact cLarg _ _)))
          refine wpQuiet_nil ?_
          intro _ hw'
          obtain ⟨⟨dq, osq⟩, hw''⟩ := hw'
          subst hw''
          have hmq : Mod (fun _ => False) w2 (grow (redrawn w2 dq) osq) := Mod.of_below (below_regrown w2 dq osq)
          clear k2 cLarg
          generalize grow (redrawn w2 dq) osq = w3 at *
          go_wp2
          go_roundw
          case rel => exact ⟨k + 1, T, ow, P, hlt, by go_num, Nat.le_succ_of_le HPl.out, HB2.out.mod hmq (fun x => x) (fun x => x), HR2.out.mod hmq (fun x => x) (fun _ _ x => x), HH, HM2.out.trans hmq⟩
          case measure => simp [intOf]; omega
      · obtain ⟨cc, rfl⟩ : ∃ cc : Nat, c = cc := ⟨c.toNat, by omega⟩
        have hcc : cc ≤ 4 := by omega
        have hT := Take_any b g N T cc wr HBk.out
        cases hf : (spots N (2 ^ cc)).find? (isFree T N (2 ^ cc)) with
        | none =>
          rw [takeR_none N T cc hcc hf] at hT
          have u1 : decide ((cc : Int) ≤ largK N T 5) = false := by
            have := largK_lt N T cc ((findT_neg N T cc).2 hf) 5
            simp; omega
          clear hf
          go_wp2_with fail
          refine hT.mono ?_
          rintro e w2 ⟨rfl, hb2, hm2⟩
          have c2 : w2.cell? ⟨gc, offc + k, none⟩ = some (.int .i64 cc) := (World.cell?_of_block (a := ⟨gc, offc + k, none⟩) (hm2.block gc (lt_of_cell c1) (fun e => by omega))).trans c1
          have HB2 := Lib.hid hb2
          have HM2 := Lib.hid (HMk.out.trans' hm2 (fun j hj e => by omega) : Mod (fun _ => False) w w2)
          have HR2 : Hid (Rows w2 o (o + 1) N ow (P.map (·.1)) (P.map (·.2)) u10 u11) := HRk.out.mod hm2 (by omega) (fun j hj e => by omega)
          have k2 := cell_regrown c2
          have cLarg := fun d os => Calls.regrown_of (w := w2) (d := d) (os := os) ((Largest_any b g N T _ (hb2.mod (S := fun _ => False) (Mod.of_below (below_regrown w2 d os)) (fun x => x) (fun x => x))).mono fun e w' ⟨q1, q2⟩ => ⟨q1, q2.below⟩)
          clear hT hb2 hm2
          go_wp2
          refine wp_region_quiet_below (by kernel_rfl) (by kernel_rfl) ?_
          repeat (go_big_quiet_step ((go_at_call 9; exact cLarg _ _)))
          refine wpQuiet_nil ?_
          intro _ hw'
          obtain ⟨⟨dq, osq⟩, hw''⟩ := hw'
          subst hw''
          have hmq : Mod (fun _ => False) w2 (grow (redrawn w2 dq) osq) := Mod.of_below (below_regrown w2 dq osq)
          clear k2 cLarg
          generalize grow (redrawn w2 dq) osq = w3 at *
          go_wp2
          go_roundw
          case rel => exact ⟨k + 1, T, ow, P, hlt, by go_num, Nat.le_succ_of_le HPl.out, HB2.out.mod hmq (fun x => x) (fun x => x), HR2.out.mod hmq (fun x => x) (fun _ _ x => x), HH, HM2.out.trans hmq⟩
          case measure => simp [intOf]; omega
        | some x =>
          rw [takeR_some N T cc hcc x hf] at hT
          have hf0 := List.find?_some hf
          have hfree : areT T x.1 (2 ^ cc) false = true := hf0
          have hmod := spots_mod N (2 ^ cc) x (List.mem_of_find?_eq_some hf)
          have hfit := x.2
          clear hf hf0
          generalize x.1 = X at *
          clear x
          obtain ⟨K, hK, e1, e2, hKp1, hKp2, hK5⟩ := class_arith cc hcc
          rw [hK] at hT hfree hmod hfit
          have E2 := Lib.hid e2
          clear hK e2
          have HMd := Lib.hid hmod
          have HK5 := Lib.hid hK5
          clear hmod hK5
          have x0 : ¬ ((X : Int) < 0) := by omega
          have x1 : ¬ ((N : Int) < (X : Int) + K) := by omega
          have x2 : ¬ ((K : Int) = 0) := by omega
          have e4 : wrap64 ((X : Int) + K) = (X : Int) + K := by unfold wrap64; omega
          have E4 := Lib.hid e4
          clear e4
          go_wp2_with fail
          refine hT.mono ?_
          rintro e w2 ⟨rfl, hb2, hm2⟩
          have c2 : w2.cell? ⟨gc, offc + k, none⟩ = some (.int .i64 cc) := (World.cell?_of_block (a := ⟨gc, offc + k, none⟩) (hm2.block gc (lt_of_cell c1) (fun e => by omega))).trans c1
          have HB2 := Lib.hid hb2
          have HM2 := Lib.hid (HMk.out.trans' hm2 (fun j hj e => by omega) : Mod (fun _ => False) w w2)
          have HR2 : Hid (Rows w2 o (o + 1) N ow (P.map (·.1)) (P.map (·.2)) u10 u11) := HRk.out.mod hm2 (by omega) (fun j hj e => by omega)
          clear hT hb2 hm2
          have e2 := E2.out
          clear E2
          go_upto_region 16 with (fail)
          rw [e2]
          clear e2 e1
          go_cut [119] from 105 to 176 (fun c wc => c = .bool false ∧ wc = w2)
          case first =>
            have hmod := HMd.out
            clear HMd E4
            rcases HK5.out with rfl | rfl | rfl | rfl | rfl
            all_goals
              go_wp2
              go_meet
              case rel => exact ⟨congrArg Value.bool (by rw [Bool.or_eq_false_iff]; exact ⟨decide_eq_false (by omega), decide_eq_false (by omega)⟩), rfl⟩
          case rest =>
            obtain ⟨rfl, rfl⟩ := hcut
            clear HMd HK5 E4 HMk HRk HBk c1 c2
            go_wp2
            go_loopw [16] (fun i wr => ∃ m : Nat, m ≤ K ∧ i = .int .i64 (X + m : Nat) ∧ Hid (BitsAt wr b g N (putN T X K true)) ∧ Hid (Rows wr o (o + 1) N (oput ow X m ((k : Int) + 1)) (P.map (·.1)) (P.map (·.2)) u10 u11) ∧ Hid (Mod (fun _ => False) w wr)) (fun i _ => X + K - (intOf i).toNat)
            case atStart => exact ⟨0, Nat.zero_le _, by simp, HB2, by rw [oput_zero]; exact HR2, HM2⟩
            case round =>
              obtain ⟨m, hm, rfl, HBm, HRm, HMm⟩ := hrel
              by_cases hlm : m < K
              · have t2 : decide (((X + m : Nat) : Int) < (X : Int) + K) = true := by simp; omega
                have ho : oput ow X m ((k : Int) + 1) (X + m) = 0 := by
                  unfold oput
                  rw [if_neg (by omega)]
                  have h1 := HH.out.2 (X + m) (by omega)
                  have h2 := areT_all hfree (X + m) (by omega) (by omega)
                  rw [h2] at h1
                  exact Decidable.byContradiction fun hne => Bool.false_ne_true (h1.2 hne)
                have c3 := HRm.out.cell (X + m) (by omega)
                rw [ho] at c3
                have f3 := HRm.out.free (X + m)
                have HR3 := Lib.hid (HRm.out.set (X + m) ((k : Int) + 1) (oput ow X (m + 1) ((k : Int) + 1)) (by omega) (fun i => oput_succ ow X m _ i))
                clear ho
                go_wp2
                go_roundw
                case rel => exact ⟨m + 1, hlm, by go_num, HBm.out.mod (Mod.set1 wr o (X + m) _) (by omega) (by omega), HR3.out, HMm.out.setCell (p := ⟨o, X + m, none⟩) (Or.inr (by show _ ≤ o; omega)) _⟩
                case measure => simp [intOf]; omega
              · obtain rfl : m = K := by omega
                have t2 : decide (((X + m : Nat) : Int) < (X : Int) + m) = false := by simp
                clear HB2 HR2 HM2 hm hlm
                have hP : P.length ≤ 60 := Nat.le_trans HPl.out (by omega)
                have hob : o + 1 ≤ wr.heap.size := lt_of HRm.out.own
                have A1 : Hid (OwnA (wr.alloc (.cells #[.int .i64 (X : Int)] 3)) (o + 1) 1 u10 (P.map (·.1)).length (ints (P.map (·.1)))) := HRm.out.at_.mod ((Mod.refl (fun _ => False) wr).alloc _) (fun _ _ x => x)
                have A2 : Hid (Src Try.prog 1 22 (.slice (some ⟨wr.heap.size, 0, none⟩) 1 1) 1 [.int .i64 (X : Int)] (wr.alloc (.cells #[.int .i64 (X : Int)] 3))) := Src.ofSlice _ Try.underlying22 _ _ _ _ rfl (new_one wr _ _) (by intro u hu; rcases List.mem_singleton.1 hu with rfl; rfl)
                have A3 : Hid (((P.map (·.1)).length + 1) * 8 ≤ 140737488355328) := by show _ ≤ _; rw [List.length_map]; omega
                have A4 : Hid ((P.map (·.1)).length + 1 ≤ 9223372036854775807) := by show _ ≤ _; rw [List.length_map]; omega
                have A5 : Hid (o + 1 ≤ (wr.alloc (.cells #[.int .i64 (X : Int)] 3)).heap.size) := by show _ ≤ _; rw [World.size_alloc]; omega
                go_upto_region 25 with (refine wpl_appendB rfl (.tmp 138) (.tmp 140) _ _ rfl (o + 1) 3 (.int .i64 0) 1 8 Try.underlying22 info_int rfl (by decide) u10 _ _ rfl A1.out _ _ _ rfl A2.out A3.out A4.out A5.out ?_; intro v1 w3 hown1 hgrow1 hblk1)
                have HR3 := Lib.hid (HRm.out.pushA hob hown1 hgrow1 hblk1)
                have HB3 : Hid (BitsAt w3 b g N (putN T X m true)) := (HBm.out.mod ((Mod.refl (fun _ => False) wr).alloc _) (fun x => x) (fun x => x)).mod hgrow1 (fun e => by have := (A1.out.lt b e).1; omega) (fun e => by have := (A1.out.lt g e).1; omega)
                have HM3 : Hid (Mod (fun _ => False) w w3) := ((HMm.out.alloc _).trans' hgrow1 (fun j hj e => by have := (A1.out.lt j e).1; omega))
                clear A1 A2 A3 A4 A5 hown1 hgrow1 hblk1 HRm HBm HMm t2 hob
                have hob : o + 1 ≤ w3.heap.size := lt_of HR3.out.own
                have A1 : Hid (OwnA (w3.alloc (.cells #[.int .i64 (m : Int)] 3)) (o + 1) 1 u11 P.length (ints (P.map (·.2)))) := by
                  have h := HR3.out.sz.mod ((Mod.refl (fun _ => False) w3).alloc (.cells #[.int .i64 (m : Int)] 3)) (fun _ _ x => x)
                  rw [List.length_map] at h
                  exact h
                have A2 : Hid (Src Try.prog 1 22 (.slice (some ⟨w3.heap.size, 0, none⟩) 1 1) 1 [.int .i64 (m : Int)] (w3.alloc (.cells #[.int .i64 (m : Int)] 3))) := Src.ofSlice _ Try.underlying22 _ _ _ _ rfl (new_one w3 _ _) (by intro u hu; rcases List.mem_singleton.1 hu with rfl; rfl)
                have A3 : Hid ((P.length + 1) * 8 ≤ 140737488355328) := by show _ ≤ _; omega
                have A4 : Hid (P.length + 1 ≤ 9223372036854775807) := by show _ ≤ _; omega
                have A5 : Hid (o + 1 ≤ (w3.alloc (.cells #[.int .i64 (m : Int)] 3)).heap.size) := by show _ ≤ _; rw [World.size_alloc]; omega
                go_upto_region 26 with (refine wpl_appendB rfl (.tmp 142) (.tmp 144) _ _ rfl (o + 1) 3 (.int .i64 0) 1 8 Try.underlying22 info_int rfl (by decide) u11 _ _ rfl A1.out _ _ _ rfl A2.out A3.out A4.out A5.out ?_; intro v2 w4 hown2 hgrow2 hblk2)
                have HR4 := Lib.hid (HR3.out.pushZ hob (by rw [List.length_map]; exact hown2) hgrow2 hblk2)
                have HB4 : Hid (BitsAt w4 b g N (putN T X m true)) := (HB3.out.mod ((Mod.refl (fun _ => False) w3).alloc _) (fun x => x) (fun x => x)).mod hgrow2 (fun e => by have := (A1.out.lt b e).1; omega) (fun e => by have := (A1.out.lt g e).1; omega)
                have HM4 : Hid (Mod (fun _ => False) w w4) := ((HM3.out.alloc _).trans' hgrow2 (fun j hj e => by have := (A1.out.lt j e).1; omega))
                obtain ⟨gz, capz, rfl⟩ := hown2.succ
                clear A1 A2 A3 A4 A5 hown2 hgrow2 hblk2 HR3 HB3 HM3 hob
                by_cases hkB : k < lenB
                · have t2 : decide (k < lenB) = true := by simp [hkB]
                  obtain ⟨gb, offb, rfl, hgb, hcellb⟩ := HH2.out k hkB
                  have c4 : w4.cell? ⟨gb, offb + k, none⟩ = some (.bool (B k)) := (World.cell?_of_block (a := ⟨gb, offb + k, none⟩) (HM4.out.block gb hgb (fun x => x))).trans hcellb
                  clear hcellb
                  cases hBk : B k with
                  | true =>
                    rw [hBk] at c4
                    have hG := fun W hW => give_any b g N (putN T X m true) X m W hW (by omega) (by omega)
                    have hq1 : turnE N (putN T X m true) X m true = 0 := by
                      simp only [turnE, fits_of hfit, Int.toNat_natCast, if_true]
                      rw [if_pos (areT_put T X m true)]
                    have hq2 : turnT N (putN T X m true) X m true = T := by
                      simp only [turnT, hq1, Int.toNat_natCast, if_true, Bool.not_true]
                      exact putN_back hfree
                    rw [hq1, hq2] at hG
                    clear hq1 hq2
                    go_wp2_with fail
                    refine (hG _ HB4.out).mono ?_
                    rintro e w5 ⟨rfl, hb5, hm5⟩
                    have HB5 := Lib.hid hb5
                    have HR5 := Lib.hid (HR4.out.mod hm5 (by omega) (fun j hj e => by omega))
                    have HM5 : Hid (Mod (fun _ => False) w w5) := HM4.out.trans' hm5 (fun j hj e => by omega)
                    clear hG hb5 hm5 HB4 HR4 HM4 c4
                    go_wp2
                    go_loopw [17] (fun i wr => ∃ q : Nat, q ≤ m ∧ i = .int .i64 (X + q : Nat) ∧ Hid (BitsAt wr b g N T) ∧ Hid (Rows wr o (o + 1) N (oput (oput ow X m ((k : Int) + 1)) X q 0) (P.map (·.1) ++ [X]) (P.map (·.2) ++ [m]) v1 (.slice (some ⟨gz, 0, none⟩) (P.length + 1) capz)) ∧ Hid (Mod (fun _ => False) w wr)) (fun i _ => X + m - (intOf i).toNat)
                    case atStart => exact ⟨0, Nat.zero_le _, by simp, HB5, by rw [oput_zero]; exact HR5, HM5⟩
                    case round =>
                      obtain ⟨q, hq, rfl, HBq, HRq, HMq⟩ := hrel
                      by_cases hlq : q < m
                      · have t3 : decide (((X + q : Nat) : Int) < (X : Int) + m) = true := by simp; omega
                        have c5 := HRq.out.cell (X + q) (by omega)
                        have f5 := HRq.out.free (X + q)
                        have HR6 := Lib.hid (HRq.out.set (X + q) 0 (oput (oput ow X m ((k : Int) + 1)) X (q + 1) 0) (by omega) (fun i => oput_succ _ X q _ i))
                        generalize oput (oput ow X m ((k : Int) + 1)) X q 0 (X + q) = ov at c5
                        go_wp2
                        go_roundw
                        case rel => exact ⟨q + 1, hlq, by go_num, HBq.out.mod (Mod.set1 wr o (X + q) _) (by omega) (by omega), HR6.out, HMq.out.setCell (p := ⟨o, X + q, none⟩) (Or.inr (by show _ ≤ o; omega)) _⟩
                        case measure => simp [intOf]; omega
                      · obtain rfl : m = q := by omega
                        have t3 : decide (((X + m : Nat) : Int) < (X : Int) + m) = false := by simp
                        have hz := HRq.out.setLast (y := 0) (by rw [List.length_map])
                        rw [List.length_map] at hz
                        have HZ := Lib.hid hz; clear hz
                        have c6 : wr.cell? ⟨gz, P.length, none⟩ = some (.int .i64 (m : Int)) := by
                          rw [HRq.out.sz.cellAt P.length (by simp)]
                          simp
                        have f6 := HRq.out.sz.freeAt P.length (by simp)
                        clear HB5 HR5 HM5 hq hlq
                        go_wp2
                        go_roundw
                        case rel => exact ⟨k + 1, T, oput (oput ow X m ((k : Int) + 1)) X m 0, P ++ [(X, 0)], hlt, by go_num, by show _ ≤ _; rw [List.length_append]; exact Nat.succ_le_succ HPl.out,
                          HBq.out.mod HZ.out.2.1 (by have := HZ.out.2.2; omega) (by have := HZ.out.2.2; omega), by rw [List.map_append, List.map_append]; exact HZ.out.1, ⟨HH.out.1.gone X (by omega), tie_back HH.out.2 X m _ hfree⟩, HMq.out.trans' HZ.out.2.1 (fun j hj e => by have := HZ.out.2.2; omega)⟩
                        case measure => simp [intOf]; omega
                  | false =>
                    rw [hBk] at c4
                    go_wp2
                    go_roundw
                    case rel => exact ⟨k + 1, putN T X m true, oput ow X m ((k : Int) + 1), P ++ [(X, m)], hlt, by go_num, by show _ ≤ _; rw [List.length_append]; exact Nat.succ_le_succ HPl.out, HB4, by rw [List.map_append, List.map_append]; exact HR4, ⟨HH.out.1.take X m hfit hfree, tie_take HH.out.2 X m _ (by omega)⟩, HM4⟩
                    case measure => simp [intOf]; omega
                · have t2 : decide (k < lenB) = false := by simp; omega
                  go_wp2
                  go_roundw
                  case rel => exact ⟨k + 1, putN T X m true, oput ow X m ((k : Int) + 1), P ++ [(X, m)], hlt, by go_num, by show _ ≤ _; rw [List.length_append]; exact Nat.succ_le_succ HPl.out, HB4, by rw [List.map_append, List.map_append]; exact HR4, ⟨HH.out.1.take X m hfit hfree, tie_take HH.out.2 X m _ (by omega)⟩, HM4⟩
                  case measure => simp [intOf]; omega
    · have t1 : decide (k < len) = false := by simp; omega
      clear HB0 HR0 HM0
      have hP60 : P.length ≤ 60 := Nat.le_trans HPl.out (by omega)
      go_wp2
      go_loop [18, 19] (fun x i => ∃ j : Nat, j ≤ N ∧ i = .int .i64 j ∧ x = .int .i64 (j - cnt T j : Nat)) (fun _ i => N - (intOf i).toNat)
      case atStart => exact ⟨0, Nat.zero_le _, rfl, rfl⟩
      case round =>
        obtain ⟨j, hj, rfl, rfl⟩ := hrel
        by_cases hlj : j < N
        · have t2 : decide (j < N) = true := by simp [hlj]
          have hI := Is_any b g N T j wr HBk.out
          have hq : isR N T (j : Int) = (T j, 0) := by unfold isR; rw [if_neg (by omega)]; simp
          rw [hq] at hI
          have c3 := HRk.out.cell j hlj
          have htie := HH.out.2 j hlj
          have hs := cnt_succ T j
          have hle := cnt_le T j
          have HS := Lib.hid (And.intro hs hle); clear hs hle hq
          cases hv : T j with
          | true =>
            rw [hv] at hI htie HS
            have hne : ¬ ow j = 0 := htie.1 rfl
            generalize ow j = y at c3 hne
            have hb1 : (y != 0) = true := by simp [hne]
            clear htie
            go_wp2_with fail
            refine hI.mono ?_
            rintro e w5 ⟨rfl, rfl⟩
            go_wp2
            go_round
            case rel => exact ⟨j + 1, hlj, by go_num, by have h1 := HS.out.1; simp at h1; congr 2; omega⟩
            case measure => simp [intOf]; omega
          | false =>
            rw [hv] at hI htie HS
            have hne : ow j = 0 := Decidable.byContradiction fun h => Bool.false_ne_true (htie.2 h)
            rw [hne] at c3
            clear htie hne
            go_wp2_with fail
            refine hI.mono ?_
            rintro e w5 ⟨rfl, rfl⟩
            go_wp2
            go_round
            case rel => exact ⟨j + 1, hlj, by go_num, by have h1 := HS.out.1; have h2 := HS.out.2; simp at h1; congr 1; omega⟩
            case measure => simp [intOf]; omega
        · obtain rfl : j = N := by omega
          have t2 : decide (j < j) = false := by simp
          have hF := free_any b g j T wr HBk.out
          generalize j - cnt T j = fr at hF ⊢
          have h10 := HRk.out.at_
          have h11 := HRk.out.sz
          rw [List.length_map] at h10 h11
          obtain ⟨aA, capA, rfl, hA⟩ := h10.shape
          obtain ⟨aZ, capZ, rfl, hZ⟩ := h11.shape
          clear h10 h11
          have HA := Lib.hid hA
          have HZ := Lib.hid hZ
          clear hA hZ
          go_wp2_with fail
          refine hF.mono ?_
          rintro e wr ⟨rfl, rfl⟩
          clear hF
          go_wp2
          go_loopw [22] (fun i wr => ∃ (q : Nat) (T' : Nat → Bool), q ≤ P.length ∧ i = .int .i64 q ∧ Hid (BitsAt wr b g j T') ∧ Hid (Held j T' (P.drop q)) ∧ Hid (Rows wr o (o + 1) j ow (P.map (·.1)) (P.map (·.2)) (.slice aA P.length capA) (.slice aZ P.length capZ)) ∧ Hid (Mod (fun _ => False) w wr)) (fun i _ => P.length - (intOf i).toNat)
          case atStart => exact ⟨0, T, Nat.zero_le _, rfl, HBk, by rw [List.drop_zero]; exact HH.out.1, HRk, HMk⟩
          case round =>
            obtain ⟨q, T', hq, rfl, HBq, HHq, HRq, HMq⟩ := hrel
            by_cases hlq : q < P.length
            · have t3 : decide (q < P.length) = true := by simp [hlq]
              obtain ⟨ga, rfl, hga⟩ := HA.out q hlq
              obtain ⟨gz, rfl, hgz⟩ := HZ.out q hlq
              have c7 := HRq.out.at_.cellAt q (by rw [List.length_map]; exact hlq)
              have c8 := HRq.out.sz.cellAt q (by rw [List.length_map]; exact hlq)
              rw [List.getElem_map] at c7 c8
              have hHq := HHq.out
              rw [List.drop_eq_getElem_cons hlq] at hHq
              have hfit := hHq.fit P[q] (List.mem_cons_self ..)
              generalize hp : P[q] = p at c7 c8 hHq hfit
              obtain ⟨X, K⟩ := p
              clear hp
              simp only at c7 c8 hfit
              obtain ⟨hare, hrest⟩ := hHq.give
              have hG := fun W hW => give_any b g j T' X K W hW (by omega) (by omega)
              have hq1 : turnE j T' X K true = 0 := by
                simp only [turnE, fits_of hfit, Int.toNat_natCast, if_true]
                rw [if_pos hare]
              have hq2 : turnT j T' X K true = putN T' X K false := by
                simp only [turnT, hq1, Int.toNat_natCast, if_true, Bool.not_true]
              rw [hq1, hq2] at hG
              have HBd : Hid (BitsAt wr.drew b g j T') := HBq.out.mod ((Mod.refl (fun _ => False) wr).drew) (fun x => x) (fun x => x)
              have HHr := Lib.hid hrest
              clear hq1 hq2 hHq hrest
              go_wp2
              go_region_with (go_at_call 10; refine (hG _ HBd.out).mono ?_; rintro e w5 ⟨rfl, hb5, hm5⟩)
              all_goals
                have HB5 := Lib.hid hb5
                have HR5 := Lib.hid (HRq.out.mod (Mod.ofDrew hm5) (by omega) (fun j hj e => by omega))
                have HM5 : Hid (Mod (fun _ => False) w w5) := HMq.out.trans' (Mod.ofDrew hm5) (fun j hj e => by omega)
                clear hb5 hm5
                go_wp2
                go_roundw
                case rel => exact ⟨q + 1, putN T' X K false, hlq, by go_num, HB5, HHr, HR5, HM5⟩
                case measure => simp [intOf]; omega
            · obtain rfl : q = P.length := by omega
              have t3 : decide (P.length < P.length) = false := by simp
              have hd := HHq.out
              rw [List.drop_length] at hd
              have hF := free_any b g j T' wr HBq.out
              rw [hd.none j, Nat.sub_zero] at hF
              clear hd
              go_wp2_with fail
              refine hF.mono ?_
              rintro e w5 ⟨rfl, rfl⟩
              go_wp2_with fail
              refine (alive_any _).mono ?_
              rintro e w9 ⟨rfl, m9⟩
              go_wp2
              go_ret
              exact ⟨rfl, HMq.out.trans m9⟩

theorem contract (H : Type) (enc : TypeId × Value → H) (W : World) (base : Nat) (args : Array Value) (ds gs : List (DataW H)) (before : List MemPlace)
    (hval : ∀ (j : Nat) t v, Try.f3.params[j]? = some t → args[j]? = some v → Value.okWide Try.prog W .any base t v)
    (hW : DataW.Whole enc Try.prog Try.f3.params.toList Rows.bitsApartSpec.vars false W args.toList ds gs before) :
    Calls Try.prog 3 args W fun e W' => ∃ v, e = .returned v ∧ Rows.bitsApartSpec.post enc Try.prog Try.f3 false true false false W args v W' := by
  have hW' := hW
  obtain ⟨p, q, hA0, hV, rfl, hfz, hnd⟩ := hW
  have hA : DataW.TrodAll enc Try.prog W 0 (fun _ => true) true Try.f3.params.toList args.toList ds p := hA0
  rw [Try.params3] at hA hval
  obtain ⟨v0, vs0, d0, ds0, p0, q0, hargs, rfl, rfl, h0, r0⟩ := trodAll_cons hA
  obtain ⟨v1, vs1, d1, ds1, p1, q1, rfl, rfl, rfl, h1, r1⟩ := trodAll_cons r0
  obtain ⟨v2, vs2, d2, ds2, p2, q2, rfl, rfl, rfl, h2, r2⟩ := trodAll_cons r1
  obtain ⟨rfl, rfl, rfl⟩ := trodAll_nil r2
  obtain rfl : args = #[v0, v1, v2] := by cases args; simp_all
  obtain ⟨n, rfl, rfl, rfl, hmax0⟩ := open_int Try.underlying3 (hval 0 3 v0 rfl rfl) h0
  obtain ⟨a1, len, cap1, C, rfl, hlen, H1⟩ := arg_ints (hval 1 22 v1 rfl rfl) h1
  obtain ⟨a2, lenB, capB, B, rfl, hlenB, H2⟩ := arg_bools (hval 2 23 v2 rfl rfl) h2
  clear hA0
  refine (walk n a1 len cap1 C a2 lenB capB B W hlen hlenB H1 H2).mono fun e W' ⟨he, hg⟩ => ?_
  subst he
  exact ⟨_, rfl, law_post hW' hg (by kernel_rfl) rfl rfl rfl rfl rfl⟩

set_option maxRecDepth 100000 in
theorem lifted (os : Os) (started : os.Started) (H : Type) (enc : TypeId × Value → H) :
    ReturnsInHanded {} Try.checked os 3 .any (Rows.bitsApartSpec.pre6 enc Try.prog Try.f3 Rows.bitsApartRow.domain false) (Rows.bitsApartSpec.post enc Try.prog Try.f3 false true false false) := by
  refine returnsInHanded_of_change (C := Try.checked) own_knob started (by kernel_rfl) Try.func3
    (ChangeSpec.witness6 (enc := enc) (C := Try.checked) false ⟨#[], #[.int .i64 0, .slice none 0 0, .slice none 0 0], []⟩ 8 (by kernel_rfl) (by kernel_rfl) (by kernel_rfl) (by kernel_rfl)) ?_
  intro W base args ds gs before hval hW _ _
  exact contract H enc W base args ds gs before hval hW

theorem proved : Rows.BitsApartSaid :=
  OpenClaim.holds_of_wide 3 Try.f3 rfl rfl rfl rfl rfl rfl rfl ⟨rfl, rfl, rfl, rfl, rfl⟩ rfl rfl rfl rfl rfl (by kernel_rfl) Try.func3 (by kernel_rfl)
    (of_decide_eq_true (by kernel_rfl)) (by unfold Func.isWrapper; first | (rw [if_pos (by decide +kernel)]; kernel_rfl) | (rw [if_neg (by decide +kernel)]; exact ⟨rfl, rfl⟩))
    (fun os started H enc _ => lifted os started H enc)
end Go.Proofs.Ytaoldidkbfhlpaa.bitsApart
