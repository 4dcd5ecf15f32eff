/- Package wire's pen, writing: lists. -/
import Derived.Test.YtklpopmjpgdjnaaGreatDoorQPenS
import Derived.Test.YtklpopmjpgdjnaaGreatDoorQGb
set_option linter.unusedVariables false
set_option linter.unusedSimpArgs false
namespace Go.Proofs.YtklpopmjpgdjnaaGreatDoor
open Go.RowKit

theorem wrTexts_le (l : List ByteArray) (o : Wr) (h : o.1.length ≤ 8192) : (wrTexts o l).1.length ≤ 8192 := by
  induction l generalizing o with
  | nil => exact h
  | cons a l ih => exact ih _ (wrText_le _ _ h)
theorem wrQid_le (o : Wr) (q : Qd) (h : o.1.length ≤ 8192) : (wrQid o q).1.length ≤ 8192 := wrB_le _ _ (wrB_le _ _ (wrB_le _ _ h))
theorem wrQids_le (l : List Qd) (o : Wr) (h : o.1.length ≤ 8192) : (wrQids o l).1.length ≤ 8192 := by
  induction l generalizing o with
  | nil => exact h
  | cons a l ih => exact ih _ (wrQid_le _ _ h)
theorem wrTexts_snoc (o : Wr) (l : List ByteArray) (a : ByteArray) : wrTexts o (l ++ [a]) = wrText (wrTexts o l) a := by simp [wrTexts]
theorem wrQids_snoc (o : Wr) (l : List Qd) (a : Qd) : wrQids o (l ++ [a]) = wrQid (wrQids o l) a := by simp [wrQids]
/-- the pen in a loop that writes: w the world ahead, W the world now -/
structure WAt (w W : World) (F : Nat → Prop) (bp br bn n : Nat) (o : Wr) (wr : Bool) : Prop where
  pen : ∃ F', PenAt W F' bp 0 o.1 br o.2 wr ∧ Grows w F F' ∧ ¬ F' bn
  m : Mod F w W
  le : o.1.length ≤ 8192
  n : W.cell? ⟨bn, 0, none⟩ = some (.int .u16 n)
theorem WAt.step {w W W2 : World} {F F' : Nat → Prop} {bp br bn n : Nat} {o o' : Wr} {wr : Bool} (h : WAt w W F bp br bn n o wr) (hg : Grows w F F') (hn : ¬ F' bn) (hp : Pens W W2 F' bp br o' wr) (hl : o'.1.length ≤ 8192) : WAt w W2 F bp br bn n o' wr := by
  obtain ⟨F2, p2, m2, g2⟩ := hp
  have hs := h.m.size
  have hbn := World.block_lt_of_cell? _ _ h.n
  refine ⟨⟨F2, p2, hg.trans g2 hs, fun x => ?_⟩, h.m.grows hg m2, hl, keepF m2 hn h.n⟩
  rcases g2 bn x with y | y
  · exact hn y
  · have : bn < W.heap.size := hbn
    omega
theorem take_snoc' {α : Type} {l : List α} {j : Nat} (h : j < l.length) : l.take (j + 1) = l.take j ++ [l[j]] := List.take_succ_eq_append_getElem h
set_option maxHeartbeats 4000000 in
set_option maxRecDepth 100000 in
theorem list_names_w (bp br bm : Nat) (F P : Nat → Prop) (o : Wr) (wg : Bool) (r : Rd) (v : Value) (l : List ByteArray) (hl : ∀ s ∈ l, s.size ≤ 262144) (w : World) (h : PenAt w F bp 0 o.1 br o.2 wg) (hv : SlAt w P v (l.map .string)) (hP : ∀ g, P g → ¬ F g) (hmF : ¬ F bm) (hx : w.cell? ⟨bm, 12, none⟩ = some v)
    (hr : w.heap[br]? = some (rdO r)) (hf : r.f = 0) (hrF : ¬ F br) (hL : l.length ≤ 1000000) (ho : o.1.length ≤ 8192) :
    Calls Tryz.prog 96 #[.pointer (some ⟨bp, 0, none⟩), .pointer (some ⟨bm, 12, none⟩), .func (.func 93) #[.pointer (some ⟨bp, 0, none⟩)] #[]] w fun e w' => e = .returned (.tuple #[]) ∧ Pens w w' F bp br (wrNames o l) wg := by
  obtain ⟨a, cap, rfl, hcap, hvx⟩ := hv.form
  rw [List.length_map] at hcap hx
  obtain ⟨c0, c3, _, _, _, _⟩ := h.cells
  obtain ⟨N, hN⟩ : ∃ N, min l.length 17 = N := ⟨_, rfl⟩
  have hNl : N ≤ l.length := by omega
  have hmin : min (l.length : Int) 17 = (N : Int) := by omega
  have hN17 : N ≤ 17 := by omega
  obtain ⟨W, hW⟩ : ∃ W, w.alloc (.cells #[.int .u16 N] 24) = W := ⟨_, rfl⟩
  obtain ⟨bn, hbn⟩ : ∃ bn, w.heap.size = bn := ⟨_, rfl⟩
  have m0 : Mod (fun _ => False) w W := by subst hW; exact (Mod.refl _ _).alloc _
  have hbW : W.heap[bn]? = some (.cells #[.int .u16 N] 24 (0, 0)) := by rw [← hbn]; subst hW; exact new_at _ _
  have cW : W.cell? ⟨bn, 0, none⟩ = some (.int .u16 N) := (cell_of hbW 0).trans rfl
  have hnF : ¬ F bn := fun x => by have := h.lt bn x; omega
  have hbm : bm < w.heap.size := World.block_lt_of_cell? _ _ hx
  have hU := pu16_w bp br bn 0 N F o wg W (h.mod m0 (fun _ x => x.elim)) cW (by omega) ho
  have HWV : Hid (wrNames o l = ((wrTexts (wrB o (leBytes 2 N)) (l.take N)).1, (wrTexts (wrB o (leBytes 2 N)) (l.take N)).2 || decide (16 < l.length))) := by
    show _ = _
    unfold wrNames
    rw [hN]
    have : l.take 17 = l.take N := by rw [← hN]; by_cases h17 : l.length ≤ 17
                                      · rw [Nat.min_eq_left h17, List.take_of_length_le h17, List.take_of_length_le (Nat.le_refl _)]
                                      · rw [Nat.min_eq_right (by omega)]
    rw [this]
  have HX := Lib.hid hx
  have HR := Lib.hid hr
  have HVX := Lib.hid hvx
  have HP := Lib.hid hP
  clear hv hvx h hr hP hbW
  go_enter Tryz.func96, Tryz.ntmps96
  go_wp2_with fail
  refine hU.mono ?_
  rintro e w1 ⟨rfl, F1, p1, m1, g1⟩
  have HA0 : Hid (WAt w w1 F bp br bn N (wrB o (leBytes 2 N)) wg) :=
    ⟨⟨F1, p1, g1.early m0.size, fun x => by rcases g1 bn x with y | y; exact hnF y; have := World.block_lt_of_cell? _ _ cW; have : bn < W.heap.size := this; omega⟩, (m0.mono fun _ _ x => x.elim).trans m1, wrB_le _ _ ho, keepF m1 hnF cW⟩
  clear hU p1 m1 g1 m0 cW hW
  go_wp2
  go_loopw [7] (fun i wr => ∃ j : Nat, j ≤ N ∧ i = .int .i64 j ∧ Hid (WAt w wr F bp br bn N (wrTexts (wrB o (leBytes 2 N)) (l.take j)) wg)) (fun i _ => N - (intOf i).toNat)
  case atStart => exact ⟨0, Nat.zero_le _, rfl, HA0.out⟩
  case round =>
    clear HA0
    obtain ⟨j, hj, rfl, HA⟩ := hrel
    obtain ⟨F', hp, hg, hn'⟩ := HA.out.pen
    obtain ⟨d0, d3, d4, f4, _, _⟩ := hp.cells
    have cn := HA.out.n
    have cx := keepF HA.out.m hmF HX.out
    by_cases hjN : j < N
    · have t1 : decide ((j : Int) < (N : Int)) = true := by simp; omega
      have t2 : decide (j < N) = true := by simp; omega
      have hft := fault_any br r wr ((HA.out.m.block br (lt_of HR.out) hrF).trans HR.out)
      rw [hf] at hft
      have hjl : j < l.length := by omega
      obtain ⟨g, off, rfl, hPg, hg0, hc0⟩ := HVX.out j _ (strs_get hjl)
      have hT := ptext_w bp br g (off + j) F' _ wg l[j] wr hp (keepF HA.out.m (HP.out g hPg) hc0) (hl _ (List.getElem_mem hjl)) HA.out.le
      clear hc0
      have i1 : (0 : Int) ≤ (j : Int) := by omega
      have i2 : (j : Int) < (l.length : Int) := by omega
      have i3 : (l.length : Int) ≤ (cap : Int) := by omega
      have HG := Lib.hid hg
      have HN' := Lib.hid hn'
      clear hp hg hn' hN hmin hcap
      go_wp2_with (go_at_call 27; refine hft.mono ?_; rintro e wz ⟨rfl, rfl⟩)
      go_wp2_with fail
      refine hT.mono ?_
      rintro e w2 ⟨rfl, hq⟩
      have HA2 := Lib.hid (HA.out.step HG.out HN'.out hq (wrText_le _ _ HA.out.le))
      rw [← wrTexts_snoc, ← take_snoc' hjl] at HA2
      clear hq hT HA HG HN' cn cx d0 d3 d4 f4 hft
      go_wp2
      go_roundw
      case rel => exact ⟨j + 1, hjN, by go_num, HA2⟩
      case measure => simp [intOf]; omega
    · obtain rfl : j = N := by omega
      have t1 : decide ((j : Int) < (j : Int)) = false := by simp
      have HG := Lib.hid hg
      have HPn := Lib.hid hp
      generalize wrTexts (wrB o (leBytes 2 j)) (l.take j) = O at *
      obtain ⟨out, lg⟩ := O
      simp only at HPn d4 HWV
      clear hp hg hn'
      by_cases h16 : 16 < l.length
      · have t3 : decide (16 < (l.length : Int)) = true := by simp; omega
        have HL : Hid ((lg || decide (16 < l.length)) = true) := by show _ = _; simp [h16]
        clear h16
        cases lg
        all_goals
          go_wp2
          go_end0
          obtain ⟨q1, q2⟩ := HPn.out.setLong true
          rw [HWV.out, HL.out]
          exact ⟨rfl, F', q1, HA.out.m.grows HG.out q2, HG.out⟩
      · have t3 : decide (16 < (l.length : Int)) = false := by simp; omega
        have HL : Hid ((lg || decide (16 < l.length)) = lg) := by show _ = _; simp [h16]
        clear h16
        cases lg
        · go_wp2
          go_end0
          obtain ⟨q1, q2⟩ := HPn.out.setLong false
          rw [HWV.out, HL.out]
          exact ⟨rfl, F', q1, HA.out.m.grows HG.out q2, HG.out⟩
        · go_wp2
          go_end0
          obtain ⟨q1, q2⟩ := HPn.out.setLong true
          rw [HWV.out, HL.out]
          exact ⟨rfl, F', q1, HA.out.m.grows HG.out q2, HG.out⟩
set_option maxHeartbeats 4000000 in
set_option maxRecDepth 100000 in
theorem list_qids_w (bp br bm : Nat) (F P : Nat → Prop) (o : Wr) (wg : Bool) (r : Rd) (v : Value) (l : List Qd) (hl : ∀ q ∈ l, q.Ok) (w : World) (h : PenAt w F bp 0 o.1 br o.2 wg) (hv : RecsAt Qd.cells 3 w P v l) (hP : ∀ g, P g → ¬ F g) (hmF : ¬ F bm) (hx : w.cell? ⟨bm, 16, none⟩ = some v)
    (hr : w.heap[br]? = some (rdO r)) (hf : r.f = 0) (hrF : ¬ F br) (hL : l.length ≤ 1000000) (ho : o.1.length ≤ 8192) :
    Calls Tryz.prog 97 #[.pointer (some ⟨bp, 0, none⟩), .pointer (some ⟨bm, 16, none⟩), .func (.func 94) #[.pointer (some ⟨bp, 0, none⟩)] #[]] w fun e w' => e = .returned (.tuple #[]) ∧ Pens w w' F bp br (wrQidl o l) wg := by
  obtain ⟨a, cap, rfl, hcap, hvx⟩ := hv.form
  skip
  obtain ⟨c0, c3, _, _, _, _⟩ := h.cells
  obtain ⟨N, hN⟩ : ∃ N, min l.length 17 = N := ⟨_, rfl⟩
  have hNl : N ≤ l.length := by omega
  have hmin : min (l.length : Int) 17 = (N : Int) := by omega
  have hN17 : N ≤ 17 := by omega
  obtain ⟨W, hW⟩ : ∃ W, w.alloc (.cells #[.int .u16 N] 24) = W := ⟨_, rfl⟩
  obtain ⟨bn, hbn⟩ : ∃ bn, w.heap.size = bn := ⟨_, rfl⟩
  have m0 : Mod (fun _ => False) w W := by subst hW; exact (Mod.refl _ _).alloc _
  have hbW : W.heap[bn]? = some (.cells #[.int .u16 N] 24 (0, 0)) := by rw [← hbn]; subst hW; exact new_at _ _
  have cW : W.cell? ⟨bn, 0, none⟩ = some (.int .u16 N) := (cell_of hbW 0).trans rfl
  have hnF : ¬ F bn := fun x => by have := h.lt bn x; omega
  have hbm : bm < w.heap.size := World.block_lt_of_cell? _ _ hx
  have hU := pu16_w bp br bn 0 N F o wg W (h.mod m0 (fun _ x => x.elim)) cW (by omega) ho
  have HWV : Hid (wrQidl o l = ((wrQids (wrB o (leBytes 2 N)) (l.take N)).1, (wrQids (wrB o (leBytes 2 N)) (l.take N)).2 || decide (16 < l.length))) := by
    show _ = _
    unfold wrQidl
    rw [hN]
    have : l.take 17 = l.take N := by rw [← hN]; by_cases h17 : l.length ≤ 17
                                      · rw [Nat.min_eq_left h17, List.take_of_length_le h17, List.take_of_length_le (Nat.le_refl _)]
                                      · rw [Nat.min_eq_right (by omega)]
    rw [this]
  have HX := Lib.hid hx
  have HR := Lib.hid hr
  have HVX := Lib.hid hvx
  have HP := Lib.hid hP
  clear hv hvx h hr hP hbW
  go_enter Tryz.func97, Tryz.ntmps97
  go_wp2_with fail
  refine hU.mono ?_
  rintro e w1 ⟨rfl, F1, p1, m1, g1⟩
  have HA0 : Hid (WAt w w1 F bp br bn N (wrB o (leBytes 2 N)) wg) :=
    ⟨⟨F1, p1, g1.early m0.size, fun x => by rcases g1 bn x with y | y; exact hnF y; have := World.block_lt_of_cell? _ _ cW; have : bn < W.heap.size := this; omega⟩, (m0.mono fun _ _ x => x.elim).trans m1, wrB_le _ _ ho, keepF m1 hnF cW⟩
  clear hU p1 m1 g1 m0 cW hW
  go_wp2
  go_loopw [7] (fun i wr => ∃ j : Nat, j ≤ N ∧ i = .int .i64 j ∧ Hid (WAt w wr F bp br bn N (wrQids (wrB o (leBytes 2 N)) (l.take j)) wg)) (fun i _ => N - (intOf i).toNat)
  case atStart => exact ⟨0, Nat.zero_le _, rfl, HA0.out⟩
  case round =>
    clear HA0
    obtain ⟨j, hj, rfl, HA⟩ := hrel
    obtain ⟨F', hp, hg, hn'⟩ := HA.out.pen
    obtain ⟨d0, d3, d4, f4, _, _⟩ := hp.cells
    have cn := HA.out.n
    have cx := keepF HA.out.m hmF HX.out
    by_cases hjN : j < N
    · have t1 : decide ((j : Int) < (N : Int)) = true := by simp; omega
      have t2 : decide (j < N) = true := by simp; omega
      have hft := fault_any br r wr ((HA.out.m.block br (lt_of HR.out) hrF).trans HR.out)
      rw [hf] at hft
      have hjl : j < l.length := by omega
      obtain ⟨g, off, rfl, hPg, hg0, hc0⟩ := HVX.out j _ (List.getElem?_eq_getElem hjl)
      have hT := pqid_w bp br g (off + j * 3) F' _ wg l[j] wr hp (hl _ (List.getElem_mem hjl)) (fun x => by rcases hg g x with y | y; exact HP.out g hPg y; omega) (keepF HA.out.m (HP.out g hPg) (hc0 0 _ rfl)) (keepF HA.out.m (HP.out g hPg) (hc0 1 _ rfl)) (keepF HA.out.m (HP.out g hPg) (hc0 2 _ rfl)) HA.out.le
      clear hc0
      have i1 : (0 : Int) ≤ (j : Int) := by omega
      have i2 : (j : Int) < (l.length : Int) := by omega
      have i3 : (l.length : Int) ≤ (cap : Int) := by omega
      have HG := Lib.hid hg
      have HN' := Lib.hid hn'
      clear hp hg hn' hN hmin hcap
      go_wp2_with (go_at_call 27; refine hft.mono ?_; rintro e wz ⟨rfl, rfl⟩)
      go_wp2_with fail
      refine hT.mono ?_
      rintro e w2 ⟨rfl, hq⟩
      have HA2 := Lib.hid (HA.out.step HG.out HN'.out hq (wrQid_le _ _ HA.out.le))
      rw [← wrQids_snoc, ← take_snoc' hjl] at HA2
      clear hq hT HA HG HN' cn cx d0 d3 d4 f4 hft
      go_wp2
      go_roundw
      case rel => exact ⟨j + 1, hjN, by go_num, HA2⟩
      case measure => simp [intOf]; omega
    · obtain rfl : j = N := by omega
      have t1 : decide ((j : Int) < (j : Int)) = false := by simp
      have HG := Lib.hid hg
      have HPn := Lib.hid hp
      generalize wrQids (wrB o (leBytes 2 j)) (l.take j) = O at *
      obtain ⟨out, lg⟩ := O
      simp only at HPn d4 HWV
      clear hp hg hn'
      by_cases h16 : 16 < l.length
      · have t3 : decide (16 < (l.length : Int)) = true := by simp; omega
        have HL : Hid ((lg || decide (16 < l.length)) = true) := by show _ = _; simp [h16]
        clear h16
        cases lg
        all_goals
          go_wp2
          go_end0
          obtain ⟨q1, q2⟩ := HPn.out.setLong true
          rw [HWV.out, HL.out]
          exact ⟨rfl, F', q1, HA.out.m.grows HG.out q2, HG.out⟩
      · have t3 : decide (16 < (l.length : Int)) = false := by simp; omega
        have HL : Hid ((lg || decide (16 < l.length)) = lg) := by show _ = _; simp [h16]
        clear h16
        cases lg
        · go_wp2
          go_end0
          obtain ⟨q1, q2⟩ := HPn.out.setLong false
          rw [HWV.out, HL.out]
          exact ⟨rfl, F', q1, HA.out.m.grows HG.out q2, HG.out⟩
        · go_wp2
          go_end0
          obtain ⟨q1, q2⟩ := HPn.out.setLong true
          rw [HWV.out, HL.out]
          exact ⟨rfl, F', q1, HA.out.m.grows HG.out q2, HG.out⟩
end Go.Proofs.YtklpopmjpgdjnaaGreatDoor
