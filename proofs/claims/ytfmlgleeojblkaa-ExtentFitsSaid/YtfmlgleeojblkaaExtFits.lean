/-
  PROVED HERE: for every int n, every []Step and every extent the law ExtentFits returns true: extents grow, shrink and move just as the document says, and what they have is what is taken. No conditions.
-/
import Derived.Test.YtfmlgleeojblkaaLawExt
import Derived.Test.YtfmlgleeojblkaaExtAlive
import Derived.Test.YtfmlgleeojblkaaExtRFit
import Derived.Test.YtfmlgleeojblkaaPFit
import Derived.Deep.RegionHeld3
import Derived.Deep.CutRange
namespace Go.Proofs.Ytfmlgleeojblkaa.extentFits
open Go.ChangeShapes Go.WideShapes Go.ChangeAt Go.RowKit

def sumN (fc : Nat → Int) : Nat → Nat
  | 0 => 0
  | j + 1 => sumN fc j + nblk (fc j)
theorem sumN_le (fc : Nat → Int) : ∀ j, sumN fc j ≤ 16 * j
  | 0 => Nat.le_refl _
  | j + 1 => by
    have h1 := sumN_le fc j
    have h2 := nblk_le (fc j)
    show sumN fc j + nblk (fc j) ≤ _
    omega
theorem _root_.Go.Proofs.Ytfmlgleeojblkaa.Mod.ofDrew' {S : Nat → Prop} {a w : World} (h : Mod S a w) : Mod S a.drew w := ⟨h.os, h.tape, h.output, h.size, h.block⟩
set_option maxRecDepth 100000 in
theorem fit_nil (X c bytes : Int) (w : World) : Calls Try.prog 15 #[.pointer none, .agg #[.int .i64 X, .int .i64 c], .int .i64 bytes] w fun e w' =>
    e = .returned (.tuple #[.agg #[.int .i64 0, .int .i64 0], .int .i64 1]) ∧ Mod (fun _ => False) w w' := by
  obtain ⟨W, hW⟩ : ∃ W, (w.alloc (.cells #[.int .i64 X, .int .i64 c] 23)).alloc (.cells #[.int .i64 0, .int .i64 0] 23) = W := ⟨_, rfl⟩
  have hbr : W.heap[w.heap.size + 1]? = some (.cells #[.int .i64 0, .int .i64 0] 23 (0, 0)) := by subst hW; exact new_at' _ _ _ (by simp)
  have hMW : Mod (fun _ => False) w W := by subst hW; exact ((Mod.refl _ w).alloc _).alloc _
  have r0 : W.cell? ⟨w.heap.size + 1, 0, none⟩ = some (.int .i64 0) := (cell_of hbr 0).trans rfl
  have r1 : W.cell? ⟨w.heap.size + 1, 1, none⟩ = some (.int .i64 0) := (cell_of hbr 1).trans rfl
  have rf0 : W.frozen? ⟨w.heap.size + 1, 0, none⟩ = false := free_of hbr 0
  have rf1 : W.frozen? ⟨w.heap.size + 1, 1, none⟩ = false := free_of hbr 1
  go_enter Try.func15, Try.ntmps15
  go_wp2_with fail
  refine (len_nil _).mono ?_
  rintro e w1 ⟨rfl, rfl⟩
  go_wp2
  obtain ⟨W6, hW6⟩ : ∃ W6, ((w1.setCell ⟨w.heap.size + 1, 0, none⟩ (.int .i64 0)).setCell ⟨w.heap.size + 1, 1, none⟩ (.int .i64 0)) = W6 := ⟨_, rfl⟩
  have h6 : W6.heap[w.heap.size + 1]? = some (.cells #[.int .i64 0, .int .i64 0] 23 (0, 0)) := by subst hW6; exact heap_set (heap_set hbr 0 _) 1 _
  have hm6 : Mod (· = w.heap.size + 1) w1 W6 := by subst hW6; exact (Mod.set1 _ _ 0 _).trans (Mod.set1 _ _ 1 _)
  rw [hW6]
  have z0 : W6.cell? ⟨w.heap.size + 1, 0, none⟩ = some (.int .i64 0) := (cell_of h6 0).trans rfl
  have z1 : W6.cell? ⟨w.heap.size + 1, 1, none⟩ = some (.int .i64 0) := (cell_of h6 1).trans rfl
  refine bodyPost_ret (v := .tuple #[.agg #[.int .i64 0, .int .i64 0], .int .i64 1]) ?_ rfl ⟨rfl, hMW.trans' hm6 (fun j hj e => by omega)⟩
  simp [results, Try.f15, go_sem, z0, z1]
theorem cnt_none (N : Nat) : cnt (fun _ => false) N = 0 := by
  induction N with
  | zero => rfl
  | succ n ih => rw [cnt_succ, ih]; rfl
/-- five extents side by side -/
structure FAt (w : World) (F : Nat) (fx fc : Nat → Int) : Prop where
  lt : F < w.heap.size
  c : ∀ j, j < 5 → w.cell? ⟨F, j * 2, none⟩ = some (.int .i64 (fx j)) ∧ w.cell? ⟨F, j * 2 + 1, none⟩ = some (.int .i64 (fc j))
  fr : ∀ j, w.frozen? ⟨F, j, none⟩ = false
theorem FAt.mod {w w' : World} {F : Nat} {fx fc : Nat → Int} {S : Nat → Prop} (h : FAt w F fx fc) (hm : Mod S w w') (hs : ¬ S F) : FAt w' F fx fc := by
  have hb := hm.block F h.lt hs
  exact ⟨Nat.lt_of_lt_of_le h.lt hm.size, fun j hj => ⟨(World.cell?_of_block (a := ⟨F, j * 2, none⟩) hb).trans (h.c j hj).1, (World.cell?_of_block (a := ⟨F, j * 2 + 1, none⟩) hb).trans (h.c j hj).2⟩, fun j => (World.frozen?_of_block (a := ⟨F, j, none⟩) hb).trans (h.fr j)⟩
def upd (f : Nat → Int) (k : Nat) (x : Int) : Nat → Int := fun j => if j = k then x else f j
theorem FAt.set {w : World} {F : Nat} {fx fc : Nat → Int} (h : FAt w F fx fc) (k : Nat) (hk : k < 5) (x c : Int) :
    FAt ((w.setCell ⟨F, k * 2, none⟩ (.int .i64 x)).setCell ⟨F, k * 2 + 1, none⟩ (.int .i64 c)) F (upd fx k x) (upd fc k c) := by
  have h1 : (w.setCell ⟨F, k * 2, none⟩ (.int .i64 x)).cell? ⟨F, k * 2 + 1, none⟩ = some (.int .i64 (fc k)) := by
    rw [cell_set (h.c k hk).1, if_neg (by omega)]; exact (h.c k hk).2
  refine ⟨Nat.lt_of_lt_of_le h.lt ((Mod.set1 w F (k * 2) _).trans (Mod.set1 _ F (k * 2 + 1) _)).size, fun j hj => ⟨?_, ?_⟩, fun j => by rw [frozen_set, frozen_set]; exact h.fr j⟩
  · rw [cell_set h1, if_neg (by omega), cell_set (h.c k hk).1]
    unfold upd
    by_cases e : j = k
    · rw [if_pos (by omega), if_pos e]
    · rw [if_neg (by omega), if_neg e]; exact (h.c j hj).1
  · rw [cell_set h1]
    unfold upd
    by_cases e : j = k
    · rw [if_pos (by omega), if_pos e]
    · rw [if_neg (by omega), if_neg e, cell_set (h.c k hk).1, if_neg (by omega)]; exact (h.c j hj).2

set_option maxRecDepth 100000 in
theorem arg_fsteps {H : Type} {enc : TypeId × Value → H} {W : World} {base : Nat} {v : Value} {d : DataW H} {ps : List MemPlace} (hval : Value.okWide Try.prog W .any base 38 v)
    (h : DataW.Trod enc Try.prog W 0 (fun _ => true) true 38 v d ps) : ∃ (a : Option Addr) (len cap : Nat) (D B : Nat → Int), v = .slice a len cap ∧ len ≤ maxLen ∧
      ∀ i, i < len → ∃ g off, a = some ⟨g, off, none⟩ ∧ g < W.heap.size ∧ W.cell? ⟨g, off + i * 2, none⟩ = some (.int .i64 (D i)) ∧ W.cell? ⟨g, off + i * 2 + 1, none⟩ = some (.int .i64 (B i)) ∧ I64' (B i) := by
  obtain ⟨a, len, cap, row, rfl, hl, hr⟩ := arg_slice Try.underlying38 (by kernel_rfl : Try.prog.cellsOf 49 = 2) (by decide) hval h
  refine ⟨a, len, cap, fun i => match row i with | [.int .i64 x, _] => x | _ => 0, fun i => match row i with | [_, .int .i64 c] => c | _ => 0, rfl, hl, fun i hi => ?_⟩
  obtain ⟨h1, ⟨g, off, ha, hg, hc⟩, n, y, hy⟩ := hr i hi
  obtain ⟨v0, v1, hrv⟩ : ∃ v0 v1, row i = [v0, v1] := by
    match row i, h1 with
    | [v0, v1], _ => exact ⟨v0, v1, rfl⟩
  rw [hrv] at hy hc
  have hC1 : Try.prog.cellsOf 3 = 1 := by kernel_rfl
  obtain ⟨y0, y1, n', hx, _, g0, g1⟩ := trod_struct2 Try.underlying49 hy
  simp only [hC1, List.drop_zero, List.take_succ_cons, List.take_zero, List.drop_succ_cons] at g0 g1
  obtain ⟨x, e0, _, w0⟩ := DataW.trod_int Try.underlying3 g0
  obtain ⟨c, e1, _, w1⟩ := DataW.trod_int Try.underlying3 g1
  cases e0
  cases e1
  have c0 := hc 0 (by decide)
  have c1 := hc 1 (by decide)
  simp only [hrv]
  exact ⟨g, off, ha, hg, c0, c1, i64_of w1⟩

set_option maxRecDepth 100000 in
set_option maxHeartbeats 4000000 in
theorem walk (n : Int) (a1 : Option Addr) (len cap1 : Nat) (D B : Nat → Int) (X c : Int) (w : World) (hlen : len ≤ maxLen) (hX : I64' X) (hc : I64' c)
    (H1 : ∀ i, i < len → ∃ g off, a1 = some ⟨g, off, none⟩ ∧ g < w.heap.size ∧ w.cell? ⟨g, off + i * 2, none⟩ = some (.int .i64 (D i)) ∧ w.cell? ⟨g, off + i * 2 + 1, none⟩ = some (.int .i64 (B i)) ∧ I64' (B i)) :
    Calls Try.prog 5 #[.int .i64 n, .slice a1 len cap1, .agg #[.int .i64 X, .int .i64 c]] w fun e w' => e = .returned (.bool true) ∧ Mod (fun _ => False) w w' := by
  unfold maxLen at hlen
  have HH1 := Lib.hid H1; clear H1
  obtain ⟨m, hm, hmask⟩ := and_mask n
  obtain ⟨N, hN⟩ : ∃ N : Nat, 1 + (m : Int) % 90 = N := ⟨1 + m % 90, by omega⟩
  have hN1 : 1 ≤ N := by omega
  have hN2 : N ≤ 90 := by omega
  obtain ⟨W0, hW0⟩ : ∃ W0, w.alloc (.cells #[.int .i64 X, .int .i64 c] 23) = W0 := ⟨_, rfl⟩
  have hm0 : Mod (fun _ => False) w W0 := by subst hW0; exact (Mod.refl _ w).alloc _
  have bx0 : W0.heap[w.heap.size]? = some (.cells #[.int .i64 X, .int .i64 c] 23 (0, 0)) := by subst hW0; exact new_at _ _
  go_enter Try.func5, Try.ntmps5
  by_cases h1 : 40 < len
  · have t1 : decide (40 < (len : Int)) = true := by simp; omega
    go_wp2_with fail
    refine (alive_any _).mono ?_
    rintro e w9 ⟨rfl, m9⟩
    go_wp2
    go_ret
    exact ⟨rfl, hm0.trans m9⟩
  have t1 : decide (40 < (len : Int)) = false := by simp; omega
  have hnew := new_any N W0 hN1 (by omega)
  obtain ⟨b, hb⟩ : ∃ b, W0.heap.size + 1 = b := ⟨_, rfl⟩
  obtain ⟨g, hg⟩ : ∃ g, W0.heap.size = g := ⟨_, rfl⟩
  have hs0 : W0.heap.size = w.heap.size + 1 := by subst hW0; simp
  have hgl : w.heap.size < g := by omega
  have hbl : w.heap.size < b := by omega
  have hbg : b ≠ g := by omega
  rw [hb, hg] at hnew
  clear hb hg
  have hmk := make_rowI (P := Try.prog) 44 4 (.bool false) 1 N (N : Int) rfl Try.underlying44 info_bool rfl (by omega) (by unfold maxLen; omega)
  go_wp2_with fail
  refine hnew.mono ?_
  rintro e w1 ⟨rfl, hB, hm1⟩
  have HB1 := Lib.hid hB; clear hB hnew hW0
  have hl0 := lt_of bx0
  have HX1 := Lib.hid ((hm1.block _ (lt_of bx0) (fun x => x)).trans bx0)
  have HM1 := Lib.hid (hm0.trans hm1)
  clear hm0 hm1 bx0 hmask hN
  obtain ⟨W2, hW2⟩ : ∃ W2, ((w1.alloc (.cells (Array.replicate N (.bool false)) 4)).alloc (.cells #[.slice (some ⟨w1.heap.size, 0, none⟩) N N] 46)).alloc
    (.cells #[.int .i64 0, .int .i64 0, .int .i64 0, .int .i64 0, .int .i64 0, .int .i64 0, .int .i64 0, .int .i64 0, .int .i64 0, .int .i64 0] 47) = W2 := ⟨_, rfl⟩
  go_wp2
  obtain ⟨g2, hg2⟩ : ∃ g2, w1.heap.size = g2 := ⟨_, rfl⟩
  rw [hg2] at hW2
  rw [hg2]
  have hs1 : w.heap.size + 1 ≤ w1.heap.size := by have := HM1.out.size; have := lt_of HX1.out; omega
  have hbw := lt_of HB1.out.hb
  have hgw := lt_of HB1.out.hg
  rw [hg2] at hs1 hbw hgw
  have hM2 : Mod (fun _ => False) w1 W2 := by subst hW2; exact (((Mod.refl _ _).alloc _).alloc _).alloc _
  have HB2 := Lib.hid (HB1.out.mod hM2 (fun x => x) (fun x => x))
  have HX2 := Lib.hid ((hM2.block _ (lt_of HX1.out) (fun x => x)).trans HX1.out)
  have HM2 := Lib.hid (HM1.out.trans hM2)
  have hr0 : RefW W2 (g2 + 1) g2 N N (fun _ => false) := by
    have q1 : W2.heap[g2]? = some (.cells (Array.replicate N (.bool false)) 4 (0, 0)) := by subst hW2; subst hg2; exact alloc_keep (alloc_keep (new_at _ _))
    have q2 : W2.heap[g2 + 1]? = some (.cells #[.slice (some ⟨g2, 0, none⟩) N N] 46 (0, 0)) := by subst hW2; subst hg2; exact alloc_keep (new_at' _ _ _ (by simp))
    exact ⟨⟨q2, lt_of q1, fun j hj => by rw [cell_of q1]; simp [hj], hN1, by omega⟩, by omega, fun j _ => free_of q1 j⟩
  have hf0 : FAt W2 (g2 + 1 + 1) (fun _ => 0) (fun q => if q < 0 then -1 else 0) := by
    have q1 : W2.heap[g2 + 1 + 1]? = some (.cells #[.int .i64 0, .int .i64 0, .int .i64 0, .int .i64 0, .int .i64 0, .int .i64 0, .int .i64 0, .int .i64 0, .int .i64 0, .int .i64 0] 47 (0, 0)) := by subst hW2; subst hg2; exact new_at' _ _ _ (by simp)
    refine ⟨lt_of q1, fun j hj => ?_, fun j => free_of q1 j⟩
    rw [cell_of q1, cell_of q1]
    rcases (show j = 0 ∨ j = 1 ∨ j = 2 ∨ j = 3 ∨ j = 4 from by omega) with rfl | rfl | rfl | rfl | rfl <;> exact ⟨rfl, rfl⟩
  have HR2 := Lib.hid hr0
  clear hr0 hM2 HB1 HX1 HM1 hmk hW2 hg2 hs0 hl0
  clear W0
  go_loopw [11] (fun i wr => ∃ j : Nat, j ≤ 5 ∧ i = .int .i64 j ∧ FAt wr (g2 + 1 + 1) (fun _ => 0) (fun q => if q < j then -1 else 0) ∧ Mod (· = g2 + 1 + 1) W2 wr) (fun i _ => 5 - (intOf i).toNat)
  case atStart => exact ⟨0, by omega, rfl, hf0, Mod.refl _ _⟩
  case round =>
    obtain ⟨j, hj, rfl, hF, hMr⟩ := hrel
    by_cases hlt : j < 5
    · have t2 : decide (j < 5) = true := by simp [hlt]
      obtain ⟨f0, f1⟩ := hF.c j hlt
      have f2 := hF.fr (j * 2)
      have f3 := hF.fr (j * 2 + 1)
      have hset := hF.set j hlt 0 (-1)
      rw [show upd (fun _ => 0) j 0 = fun _ => 0 from by funext q; simp [upd], show upd (fun q => if q < j then -1 else 0) j (-1) = fun q => if q < j + 1 then -1 else 0 from by
        funext q
        unfold upd
        by_cases e : q = j
        · rw [if_pos e, if_pos (by omega)]
        · rw [if_neg e]
          show (if q < j then _ else _) = _
          by_cases e2 : q < j
          · rw [if_pos e2, if_pos (by omega)]
          · rw [if_neg e2, if_neg (by omega)]] at hset
      have HS := Lib.hid hset
      have HMr := Lib.hid hMr
      clear hset hF hMr
      go_wp2
      go_roundw
      case rel => exact ⟨j + 1, hlt, by go_num, HS.out, (HMr.out.setCell (p := ⟨g2 + 1 + 1, j * 2, none⟩) (Or.inl rfl) _).setCell (p := ⟨g2 + 1 + 1, j * 2 + 1, none⟩) (Or.inl rfl) _⟩
      case measure => simp [intOf]; omega
    · obtain rfl : j = 5 := by omega
      have HF := Lib.hid hF
      have HMr := Lib.hid hMr
      clear hF hMr hf0
      have hF5 : FAt wr (g2 + 1 + 1) (fun _ => 0) (fun _ => -1) := ⟨HF.out.lt, fun j hj => by have := HF.out.c j hj; simp only [if_pos hj] at this; exact this, HF.out.fr⟩
      obtain ⟨F, hFe⟩ : ∃ F, g2 + 1 + 1 = F := ⟨_, rfl⟩
      rw [hFe] at HMr hF5
      have hFe' := Lib.hid hFe
      have HB3 := Lib.hid (HB2.out.mod HMr.out (by omega) (by omega))
      have HR3 := Lib.hid (HR2.out.mod HMr.out (by omega) (by omega))
      have HF3 := Lib.hid hF5
      have HM3 : Hid (Mod (fun _ => False) w wr) := HM2.out.trans' HMr.out (fun k hk e => by omega)
      have HX3 := Lib.hid ((HMr.out.block _ (lt_of HX2.out) (fun e => by omega)).trans HX2.out)
      clear HF hF5 HMr HB2 HR2 HM2 HX2
      go_wp2
      rw [hFe]
      obtain ⟨W3, hW3⟩ : ∃ W3, wr = W3 := ⟨_, rfl⟩
      rw [hW3] at HB3 HR3 HF3 HM3 HX3 ⊢
      clear hW3 hFe
      rw [show (((5 : Nat) : Nat) : Int) = 5 from rfl]
      go_loopw [12] (fun i wr => ∃ (k : Nat) (T : Nat → Bool) (fx fc : Nat → Int), k ≤ len ∧ i = .int .i64 k ∧ Hid (BitsAt wr b g N T) ∧ Hid (RefW wr (g2 + 1) g2 N N T) ∧ Hid (FAt wr F fx fc) ∧ Hid (∀ j, j < 5 → I64' (fx j) ∧ I64' (fc j)) ∧
        Hid (cnt T N = nblk (fc 0) + nblk (fc 1) + nblk (fc 2) + nblk (fc 3) + nblk (fc 4)) ∧ Hid (Mod (fun k => k = g ∨ k = g2 ∨ k = F) W3 wr)) (fun i _ => len - (intOf i).toNat)
      case atStart =>
        refine ⟨0, _, _, _, Nat.zero_le _, rfl, HB3, HR3, HF3, fun j hj => ⟨by unfold I64'; decide, by unfold I64'; decide⟩, ?_, Mod.refl _ _⟩
        show cnt _ N = 0 + 0 + 0 + 0 + 0
        rw [cnt_none]
      case round =>
        obtain ⟨k, T, fx, fc, hk, rfl, HB, HR, HF, HI, HC, HM⟩ := hrel
        by_cases hlt2 : k < len
        · have t3 : decide (k < len) = true := by simp [hlt2]
          obtain ⟨ga, offa, rfl, hga, l0, l1, hIB⟩ := HH1.out k hlt2
          obtain ⟨m2, hm2, hmask2⟩ := and_mask (D k)
          obtain ⟨kk, hkk⟩ : ∃ kk : Nat, (m2 : Int) % 5 = kk := ⟨m2 % 5, by omega⟩
          have hkk5 : kk < 5 := by omega
          have hMw := HM3.out.trans' HM.out (T := fun k => k = g ∨ k = g2 ∨ k = F) (fun j hj e => by have := hFe'.out; omega)
          have hbl := hMw.block ga hga (fun x => x)
          replace l0 := (World.cell?_of_block (a := ⟨ga, offa + k * 2, none⟩) hbl).trans l0
          replace l1 := (World.cell?_of_block (a := ⟨ga, offa + k * 2 + 1, none⟩) hbl).trans l1
          obtain ⟨f0, f1⟩ := HF.out.c kk hkk5
          have hfi := HI.out kk hkk5
          have hFl : F < wr.heap.size := HF.out.lt
          have hgl' : g < wr.heap.size := lt_of HB.out.hg
          have hbl' : b < wr.heap.size := lt_of HB.out.hb
          have hgF : F ≠ g := by have := hFe'.out; omega
          have hgag : ga ≠ g := by omega
          have hfit := fun W h => fit_any b g N T (fx kk) (fc kk) (B k) W h hfi.1 hfi.2
          have hrfit := fun W h => rfit_any (g2 + 1) g2 N N T (fx kk) (fc kk) (B k) W h hfi.1 hfi.2 hIB
          have hfe := fit_err (N := N) (T := T) (X := fx kk) (c := fc kk) (bytes := B k)
          have hfc := fit_cnt (N := N) (T := T) (X := fx kk) (c := fc kk) (bytes := B k) (by omega)
          generalize fitR N T (fx kk) (fc kk) (B k) = R at *
          obtain ⟨⟨rx, rc⟩, re, RT⟩ := R
          simp only at hfit hrfit hfe hfc
          have HFE := Lib.hid hfe
          have HFC := Lib.hid hfc
          clear hfe hfc
          have hSk : ∀ (S : Nat → Prop) (U V : World), (U.cell? ⟨F, kk * 2, none⟩ = some (.int .i64 (fx kk)) ∧ U.cell? ⟨F, kk * 2 + 1, none⟩ = some (.int .i64 (fc kk)) ∧ U.cell? ⟨ga, offa + k * 2 + 1, none⟩ = some (.int .i64 (B k))) → Mod S U V → ¬ S F → ¬ S ga →
              (V.cell? ⟨F, kk * 2, none⟩ = some (.int .i64 (fx kk)) ∧ V.cell? ⟨F, kk * 2 + 1, none⟩ = some (.int .i64 (fc kk)) ∧ V.cell? ⟨ga, offa + k * 2 + 1, none⟩ = some (.int .i64 (B k))) := by
            rintro S U V ⟨h1, h2, h3⟩ hm hs1 hs2
            exact ⟨(World.cell?_of_block (a := ⟨F, kk * 2, none⟩) (hm.block F (World.block_lt_of_cell? _ _ h1) hs1)).trans h1,
              (World.cell?_of_block (a := ⟨F, kk * 2 + 1, none⟩) (hm.block F (World.block_lt_of_cell? _ _ h2) hs1)).trans h2,
              (World.cell?_of_block (a := ⟨ga, offa + k * 2 + 1, none⟩) (hm.block ga (World.block_lt_of_cell? _ _ h3) hs2)).trans h3⟩
          have hS0 : wr.drew.cell? ⟨F, kk * 2, none⟩ = some (.int .i64 (fx kk)) ∧ wr.drew.cell? ⟨F, kk * 2 + 1, none⟩ = some (.int .i64 (fc kk)) ∧ wr.drew.cell? ⟨ga, offa + k * 2 + 1, none⟩ = some (.int .i64 (B k)) := ⟨f0, f1, l1⟩
          have HB0 : Hid (BitsAt wr.drew b g N T) := HB.out.mod ((Mod.refl (fun _ => False) wr).drew) (fun x => x) (fun x => x)
          clear f0 f1
          have i1 : (0 : Int) ≤ (kk : Int) := by omega
          have i2 : (kk : Int) < 5 := by omega
          go_upto_region 17 with (fail)
          rw [hkk]
          go_cut [14, 15] from 52 to 128 (fun p e wc => ∃ q, p = .pointer (some ⟨q, 0, none⟩) ∧ e = .int .i64 re ∧ Hid (wc.heap[q]? = some (.cells #[.int .i64 rx, .int .i64 rc] 23 (0, 0))) ∧ Hid (BitsAt wc b g N RT) ∧ Hid (Mod (· = g) wr wc) ∧ (wr).heap.size ≤ q ∧ q < wc.heap.size)
          case first =>
            go_region_held3 (fun w' => w'.cell? ⟨F, kk * 2, none⟩ = some (.int .i64 (fx kk)) ∧ w'.cell? ⟨F, kk * 2 + 1, none⟩ = some (.int .i64 (fc kk)) ∧ w'.cell? ⟨ga, offa + k * 2 + 1, none⟩ = some (.int .i64 (B k))) (first | exact hS0 | exact hS4 | exact hSk _ _ _ hS4 ((Mod.refl (fun _ => False) _).alloc _) (fun x => x) (fun x => x) | exact hSk _ _ _ (by assumption) ((Mod.refl (fun _ => False) _).alloc _) (fun x => x) (fun x => x) | exact hSk _ _ _ (by assumption) ((Mod.set1 _ (wr).heap.size 0 _).trans (Mod.set1 _ (wr).heap.size 1 _)) (by omega) (by omega)) (first
              | (go_at_call 15; refine (hfit _ (by first | exact HB0.out | exact HB0.out.mod ((Mod.refl (fun _ => False) _).alloc _) (fun x => x) (fun x => x))).mono ?_; rintro e w4 ⟨rfl, hb4, m4⟩; have hS4 := hSk _ _ _ (by assumption) m4 (by omega) (by omega); first | (have qb : w4.heap[(wr).heap.size]? = some (.cells #[.int .i64 0, .int .i64 0] 23 (0, 0)) := (m4.block (wr).heap.size (by simp) (by omega)).trans (new_at (wr).drew _); have q0 : w4.cell? ⟨(wr).heap.size, 0, none⟩ = some (.int .i64 0) := (cell_of qb 0).trans rfl; have q1 : w4.cell? ⟨(wr).heap.size, 1, none⟩ = some (.int .i64 0) := (cell_of qb 1).trans rfl; have q2 : w4.frozen? ⟨(wr).heap.size, 0, none⟩ = false := free_of qb 0; have q3 : w4.frozen? ⟨(wr).heap.size, 1, none⟩ = false := free_of qb 1) | skip))
            · have hb5 := Lib.hid hb4
              have hm5 : Mod (· = g) wr w4 := Mod.ofDrew m4
              clear hb4 m4
              go_wp2_with fail
              go_meet
              case rel => exact ⟨_, rfl, rfl, new_at _ _, hb5.out.mod ((Mod.refl (fun _ => False) _).alloc _) (fun x => x) (fun x => x), hm5.alloc _, hm5.size, by simp⟩
            · have hb5 := Lib.hid hb4
              have hm5 : Mod (· = g) wr w4 := (((Mod.refl _ (wr)).alloc _).drew).trans m4
              have hq5 := lt_of qb
              clear hb4 m4
              go_wp2_with fail
              go_meet
              case rel => exact ⟨_, rfl, rfl, heap_set (heap_set qb 0 _) 1 _, hb5.out.mod ((Mod.set1 _ (wr).heap.size 0 _).trans (Mod.set1 _ (wr).heap.size 1 _)) (by omega) (by omega), (hm5.setCell (p := ⟨(wr).heap.size, 0, none⟩) (Or.inr (Nat.le_refl _)) _).setCell (p := ⟨(wr).heap.size, 1, none⟩) (Or.inr (Nat.le_refl _)) _, Nat.le_refl _, by simpa [World.setCell] using hq5⟩
          case rest =>
            obtain ⟨q, rfl, rfl, HQ, HB1, HM1, hq1, hq2⟩ := hcut
            obtain ⟨w5, rfl⟩ : ∃ w5, w5 = wc := ⟨_, rfl⟩
            have hS0 : w5.drew.cell? ⟨F, kk * 2, none⟩ = some (.int .i64 (fx kk)) ∧ w5.drew.cell? ⟨F, kk * 2 + 1, none⟩ = some (.int .i64 (fc kk)) ∧ w5.drew.cell? ⟨ga, offa + k * 2 + 1, none⟩ = some (.int .i64 (B k)) := hSk _ _ _ hS0 ((Mod.ofDrew' HM1.out).drew) (by omega) (by omega)
            have hwl := HM1.out.size
            have hgg2 : g2 < wr.heap.size := HR.out.at_.hg
            have hgr2 : g2 + 1 < wr.heap.size := lt_of HR.out.at_.hb
            have HBR0 : Hid (RefW w5.drew (g2 + 1) g2 N N T) := HR.out.mod HM1.out.drew (by omega) (by omega)
            have hFl : F < w5.heap.size := by omega
            have hgF2 : F ≠ g2 := by have := hFe'.out; omega
            have hgag2 : ga ≠ g2 := by omega
            go_upto_region 18 with (fail)
            skip
            go_cut [16, 17] from 52 to 128 (fun p e wc => ∃ q, p = .pointer (some ⟨q, 0, none⟩) ∧ e = .int .i64 re ∧ Hid (wc.heap[q]? = some (.cells #[.int .i64 rx, .int .i64 rc] 23 (0, 0))) ∧ Hid (RefW wc (g2 + 1) g2 N N RT) ∧ Hid (Mod (· = g2) w5 wc) ∧ (w5).heap.size ≤ q ∧ q < wc.heap.size)
            case first =>
              go_region_held3 (fun w' => w'.cell? ⟨F, kk * 2, none⟩ = some (.int .i64 (fx kk)) ∧ w'.cell? ⟨F, kk * 2 + 1, none⟩ = some (.int .i64 (fc kk)) ∧ w'.cell? ⟨ga, offa + k * 2 + 1, none⟩ = some (.int .i64 (B k))) (first | exact hS0 | exact hS4 | exact hSk _ _ _ hS4 ((Mod.refl (fun _ => False) _).alloc _) (fun x => x) (fun x => x) | exact hSk _ _ _ (by assumption) ((Mod.refl (fun _ => False) _).alloc _) (fun x => x) (fun x => x) | exact hSk _ _ _ (by assumption) ((Mod.set1 _ (w5).heap.size 0 _).trans (Mod.set1 _ (w5).heap.size 1 _)) (by omega) (by omega)) (first
                | (go_at_call 16; refine (hrfit _ (by first | exact HBR0.out | exact HBR0.out.mod ((Mod.refl (fun _ => False) _).alloc _) (fun x => x) (fun x => x))).mono ?_; rintro e w4 ⟨rfl, hb4, m4⟩; have hS4 := hSk _ _ _ (by assumption) m4 (by omega) (by omega); first | (have qb : w4.heap[(w5).heap.size]? = some (.cells #[.int .i64 0, .int .i64 0] 23 (0, 0)) := (m4.block (w5).heap.size (by simp) (by omega)).trans (new_at (w5).drew _); have q0 : w4.cell? ⟨(w5).heap.size, 0, none⟩ = some (.int .i64 0) := (cell_of qb 0).trans rfl; have q1 : w4.cell? ⟨(w5).heap.size, 1, none⟩ = some (.int .i64 0) := (cell_of qb 1).trans rfl; have q2 : w4.frozen? ⟨(w5).heap.size, 0, none⟩ = false := free_of qb 0; have q3 : w4.frozen? ⟨(w5).heap.size, 1, none⟩ = false := free_of qb 1) | skip))
              · have hb5 := Lib.hid hb4
                have hm5 : Mod (· = g2) w5 w4 := Mod.ofDrew m4
                clear hb4 m4
                go_wp2_with fail
                go_meet
                case rel => exact ⟨_, rfl, rfl, new_at _ _, hb5.out.mod ((Mod.refl (fun _ => False) _).alloc _) (fun x => x) (fun x => x), hm5.alloc _, hm5.size, by simp⟩
              · have hb5 := Lib.hid hb4
                have hm5 : Mod (· = g2) w5 w4 := (((Mod.refl _ (w5)).alloc _).drew).trans m4
                have hq5 := lt_of qb
                clear hb4 m4
                go_wp2_with fail
                go_meet
                case rel => exact ⟨_, rfl, rfl, heap_set (heap_set qb 0 _) 1 _, hb5.out.mod ((Mod.set1 _ (w5).heap.size 0 _).trans (Mod.set1 _ (w5).heap.size 1 _)) (by omega) (by omega), (hm5.setCell (p := ⟨(w5).heap.size, 0, none⟩) (Or.inr (Nat.le_refl _)) _).setCell (p := ⟨(w5).heap.size, 1, none⟩) (Or.inr (Nat.le_refl _)) _, Nat.le_refl _, by simpa [World.setCell] using hq5⟩
            case rest =>
              obtain ⟨q2, rfl, rfl, HQ2, HR1, HM2, hq3, hq4⟩ := hcut
              obtain ⟨w6, rfl⟩ : ∃ w6, w6 = wc := ⟨_, rfl⟩
              have hout := HB1.out.out
              have HQ6 := Lib.hid ((HM2.out.block _ (lt_of HQ.out) (fun e => by omega)).trans HQ.out)
              have HB6 := Lib.hid (HB1.out.mod HM2.out (by omega) (by omega))
              have HF6 := Lib.hid ((HF.out.mod HM1.out hgF).mod HM2.out hgF2)
              have HM6 : Hid (Mod (fun k => k = g ∨ k = g2 ∨ k = F) W3 w6) := (HM.out.trans (HM1.out.mono (fun _ _ e => Or.inl e))).trans (HM2.out.mono (fun _ _ e => Or.inr (Or.inl e)))
              have hby := fun W h => Bytes_any b g N RT W h
              have hrby := fun W h => rbytes_any (g2 + 1) g2 N N RT W h hout
              obtain ⟨bst, hbst⟩ : ∃ bst, bs (bytesT RT ((N + 7) / 8)) = bst := ⟨_, rfl⟩
              rw [hbst] at hby hrby
              clear hbst HQ HB HR HF HM HM1 HM2 HB1 hS0 HBR0 hrfit hfit hSk HB0 l0 l1 hbl
              have x0 : w6.cell? ⟨q, 0, none⟩ = some (.int .i64 rx) := (cell_of HQ6.out 0).trans rfl
              have x1 : w6.cell? ⟨q, 1, none⟩ = some (.int .i64 rc) := (cell_of HQ6.out 1).trans rfl
              have y0 : w6.cell? ⟨q2, 0, none⟩ = some (.int .i64 rx) := (cell_of HQ2.out 0).trans rfl
              have y1 : w6.cell? ⟨q2, 1, none⟩ = some (.int .i64 rc) := (cell_of HQ2.out 1).trans rfl
              go_wp2_with fail
              refine (hby _ HB6.out).mono ?_
              rintro e w7 ⟨rfl, m7⟩
              go_wp2_with fail
              refine (hrby _ (HR1.out.at_.mod m7 (fun x => x) (fun x => x))).mono ?_
              rintro e w8 ⟨rfl, m8⟩
              have m78 := m7.trans m8
              have HQ8 := Lib.hid ((m78.block _ (lt_of HQ6.out) (fun x => x)).trans HQ6.out)
              have HB8 := Lib.hid (HB6.out.mod m78 (fun x => x) (fun x => x))
              have HR8 := Lib.hid (HR1.out.mod m78 (fun x => x) (fun x => x))
              have HF8 := Lib.hid (HF6.out.mod m78 (fun x => x))
              have HM8 : Hid (Mod (fun k => k = g ∨ k = g2 ∨ k = F) W3 w8) := HM6.out.trans (m78.mono (fun _ _ x => x.elim))
              clear x0 x1 y0 y1 m7 m8 m78 HQ6 HB6 HR1 HF6 HM6 HQ2 hby hrby
              by_cases hre : re = 0
              · subst hre
                have x0 : w8.cell? ⟨q, 0, none⟩ = some (.int .i64 rx) := (cell_of HQ8.out 0).trans rfl
                have x1 : w8.cell? ⟨q, 1, none⟩ = some (.int .i64 rc) := (cell_of HQ8.out 1).trans rfl
                obtain ⟨f0, f1⟩ := HF8.out.c kk hkk5
                have f2 := HF8.out.fr (kk * 2)
                have f3 := HF8.out.fr (kk * 2 + 1)
                obtain ⟨V, hV⟩ : ∃ V, (w8.setCell ⟨F, kk * 2, none⟩ (.int .i64 rx)).setCell ⟨F, kk * 2 + 1, none⟩ (.int .i64 rc) = V := ⟨_, rfl⟩
                have mV : Mod (· = F) w8 V := by subst hV; exact (Mod.set1 _ F _ _).trans (Mod.set1 _ F _ _)
                have HFV : Hid (FAt V F (upd fx kk rx) (upd fc kk rc)) := by subst hV; exact HF8.out.set kk hkk5 rx rc
                have HBV := Lib.hid (HB8.out.mod mV (by have := hFe'.out; omega) (by omega))
                have HRV := Lib.hid (HR8.out.mod mV (by have := hFe'.out; omega) (by omega))
                have HMV : Hid (Mod (fun k => k = g ∨ k = g2 ∨ k = F) W3 V) := HM8.out.trans (mV.mono (fun _ _ e => Or.inr (Or.inr e)))
                have hfc := HFC.out rfl
                have HIV : Hid (∀ j, j < 5 → I64' (upd fx kk rx j) ∧ I64' (upd fc kk rc j)) := fun j hj => by
                  unfold upd
                  by_cases e : j = kk
                  · rw [if_pos e, if_pos e]; exact hfc.2
                  · rw [if_neg e, if_neg e]; exact HI.out j hj
                have HCV : Hid (cnt RT N = nblk (upd fc kk rc 0) + nblk (upd fc kk rc 1) + nblk (upd fc kk rc 2) + nblk (upd fc kk rc 3) + nblk (upd fc kk rc 4)) := by
                  have h1 := hfc.1
                  have h2 := HC.out
                  show _ = _
                  unfold upd
                  rcases (show kk = 0 ∨ kk = 1 ∨ kk = 2 ∨ kk = 3 ∨ kk = 4 from by omega) with e | e | e | e | e <;> (subst e; simp; omega)
                clear hfc HQ8 HB8 HR8 HF8 HM8 mV
                generalize upd fx kk rx = fx' at *
                generalize upd fc kk rc = fc' at *
                have hfree := free_any b g N RT V (HBV).out
                have hcle := cnt_le RT N
                obtain ⟨fr, hfr⟩ : ∃ fr, N - cnt RT N = fr := ⟨_, rfl⟩
                rw [hfr] at hfree
                go_wp2
                go_loop [18, 19] (fun u j => ∃ jn : Nat, jn ≤ 5 ∧ j = .int .i64 jn ∧ u = .int .i64 (sumN fc' jn : Nat)) (fun _ j => 5 - (intOf j).toNat)
                case atStart => exact ⟨0, Nat.zero_le _, rfl, rfl⟩
                case round =>
                  obtain ⟨jn, hjn, rfl, rfl⟩ := hrel
                  have hsum := sumN_le fc' jn
                  by_cases hj5 : jn < 5
                  · have t4 : decide (jn < 5) = true := by simp [hj5]
                    obtain ⟨_, c1⟩ := (HFV).out.c jn hj5
                    have hrm := rroom_any (fc' jn) V
                    obtain ⟨nb, hnb⟩ : ∃ nb, nblk (fc' jn) = nb := ⟨_, rfl⟩
                    have hnb16 : nb ≤ 16 := by have := nblk_le (fc' jn); omega
                    rw [hnb] at hrm
                    obtain ⟨R, hR⟩ : ∃ R, 448 * nb = R := ⟨_, rfl⟩
                    rw [hR] at hrm
                    have hdiv : (R : Int) / 448 = nb := by omega
                    obtain ⟨sm, hsm⟩ : ∃ sm, sumN fc' jn = sm := ⟨_, rfl⟩
                    have hsm2 : sumN fc' (jn + 1) = sm + nb := by rw [← hsm, ← hnb]; rfl
                    rw [hsm]
                    rw [hsm] at hsum
                    have HSM := Lib.hid hsm2
                    clear hsm hsm2 hnb
                    go_wp2_with fail
                    refine hrm.mono ?_
                    rintro e V ⟨rfl, rfl⟩
                    go_wp2
                    go_round
                    case rel => exact ⟨jn + 1, hj5, by go_num, by rw [HSM.out]; go_num⟩
                    case measure => simp [intOf]; omega
                  · obtain rfl : jn = 5 := by omega
                    have hs5 : sumN fc' 5 = nblk (fc' 0) + nblk (fc' 1) + nblk (fc' 2) + nblk (fc' 3) + nblk (fc' 4) := by simp [sumN]
                    have hcc := (HCV).out
                    obtain ⟨sm, hsm⟩ : ∃ sm, sumN fc' 5 = sm := ⟨_, rfl⟩
                    rw [hsm] at hs5 hsum
                    have e3 : (fr : Int) + sm = N := by omega
                    rw [hsm]
                    clear hs5 hcc hsm hfr
                    go_wp2_with fail
                    refine hfree.mono ?_
                    rintro e V ⟨rfl, rfl⟩
                    go_wp2
                    go_roundw
                    case rel => exact ⟨k + 1, RT, fx', fc', hlt2, by go_num, HBV, HRV, HFV, HIV, HCV, HMV⟩
                    case measure => simp [intOf]; omega
              · have t5 : (re == 0) = false := by simp [hre]
                have HCV : Hid (cnt RT N = nblk (fc 0) + nblk (fc 1) + nblk (fc 2) + nblk (fc 3) + nblk (fc 4)) := by
                  show _ = _
                  rw [HFE.out hre]; exact HC.out
                have hfree := free_any b g N RT w8 (HB8).out
                have hcle := cnt_le RT N
                obtain ⟨fr, hfr⟩ : ∃ fr, N - cnt RT N = fr := ⟨_, rfl⟩
                rw [hfr] at hfree
                go_wp2
                go_loop [18, 19] (fun u j => ∃ jn : Nat, jn ≤ 5 ∧ j = .int .i64 jn ∧ u = .int .i64 (sumN fc jn : Nat)) (fun _ j => 5 - (intOf j).toNat)
                case atStart => exact ⟨0, Nat.zero_le _, rfl, rfl⟩
                case round =>
                  obtain ⟨jn, hjn, rfl, rfl⟩ := hrel
                  have hsum := sumN_le fc jn
                  by_cases hj5 : jn < 5
                  · have t4 : decide (jn < 5) = true := by simp [hj5]
                    obtain ⟨_, c1⟩ := (HF8).out.c jn hj5
                    have hrm := rroom_any (fc jn) w8
                    obtain ⟨nb, hnb⟩ : ∃ nb, nblk (fc jn) = nb := ⟨_, rfl⟩
                    have hnb16 : nb ≤ 16 := by have := nblk_le (fc jn); omega
                    rw [hnb] at hrm
                    obtain ⟨R, hR⟩ : ∃ R, 448 * nb = R := ⟨_, rfl⟩
                    rw [hR] at hrm
                    have hdiv : (R : Int) / 448 = nb := by omega
                    obtain ⟨sm, hsm⟩ : ∃ sm, sumN fc jn = sm := ⟨_, rfl⟩
                    have hsm2 : sumN fc (jn + 1) = sm + nb := by rw [← hsm, ← hnb]; rfl
                    rw [hsm]
                    rw [hsm] at hsum
                    have HSM := Lib.hid hsm2
                    clear hsm hsm2 hnb
                    go_wp2_with fail
                    refine hrm.mono ?_
                    rintro e w8 ⟨rfl, rfl⟩
                    go_wp2
                    go_round
                    case rel => exact ⟨jn + 1, hj5, by go_num, by rw [HSM.out]; go_num⟩
                    case measure => simp [intOf]; omega
                  · obtain rfl : jn = 5 := by omega
                    have hs5 : sumN fc 5 = nblk (fc 0) + nblk (fc 1) + nblk (fc 2) + nblk (fc 3) + nblk (fc 4) := by simp [sumN]
                    have hcc := (HCV).out
                    obtain ⟨sm, hsm⟩ : ∃ sm, sumN fc 5 = sm := ⟨_, rfl⟩
                    rw [hsm] at hs5 hsum
                    have e3 : (fr : Int) + sm = N := by omega
                    rw [hsm]
                    clear hs5 hcc hsm hfr
                    go_wp2_with fail
                    refine hfree.mono ?_
                    rintro e w8 ⟨rfl, rfl⟩
                    go_wp2
                    go_roundw
                    case rel => exact ⟨k + 1, RT, fx, fc, hlt2, by go_num, HB8, HR8, HF8, HI, HCV, HM8⟩
                    case measure => simp [intOf]; omega
        · have t3 : decide (k < len) = false := by simp; omega
          have HXr := Lib.hid ((HM.out.block _ (lt_of HX3.out) (fun e => by have := hFe'.out; omega)).trans HX3.out)
          have HMr : Hid (Mod (fun _ => False) w wr) := HM3.out.trans' HM.out (fun j hj e => by have := hFe'.out; omega)
          have hbl3 := lt_of HB.out.hb
          have hgl3 := lt_of HB.out.hg
          have hwl3 := HMr.out.size
          have hxl3 := lt_of HXr.out
          clear HX3 HM3 HF3 HR3 HB3 HM HI HC HF HH1
          have hcp := rcopy_any (g2 + 1) g2 N N T wr HR.out
          go_wp2_with fail
          refine hcp.mono ?_
          rintro e w4 ⟨r', g', cap', rfl, hr', hr1, hr2, m4⟩
          have HR4 := Lib.hid hr'
          have HB4 := Lib.hid (HB.out.mod m4 (fun x => x) (fun x => x))
          have HX4 := Lib.hid ((m4.block _ (lt_of HXr.out) (fun x => x)).trans HXr.out)
          have HM4 := Lib.hid (HMr.out.trans m4)
          clear hr' m4 HR HB HXr HMr hcp
          have hgl4 := lt_of HB4.out.hg
          have hbl4 := lt_of HB4.out.hb
          have hfit := fit_any b g N T X c N w4 HB4.out hX hc
          have hrfit := fun W h => rfit_any r' g' N cap' T X c N W h hX hc (by unfold I64'; omega)
          generalize fitR N T X c N = R at *
          obtain ⟨⟨rx, rc⟩, re, RT⟩ := R
          simp only at hfit hrfit
          have x0 : w4.cell? ⟨w.heap.size, 0, none⟩ = some (.int .i64 X) := (cell_of HX4.out 0).trans rfl
          have x1 : w4.cell? ⟨w.heap.size, 1, none⟩ = some (.int .i64 c) := (cell_of HX4.out 1).trans rfl
          go_wp2_with fail
          refine hfit.mono ?_
          rintro e w5 ⟨rfl, hb5, m5⟩
          clear x0 x1
          have HB5 := Lib.hid hb5
          have HR5 := Lib.hid (HR4.out.mod m5 (by omega) (by omega))
          have HX5 := Lib.hid ((m5.block _ (lt_of HX4.out) (fun e => by omega)).trans HX4.out)
          have HM5 : Hid (Mod (fun _ => False) w w5) := HM4.out.trans' m5 (fun j hj e => by omega)
          have HX5' := HX5
          have HR4l := HR4.out.at_.hg
          have HS45 := Lib.hid m5.size
          clear hb5 m5 HB4 HR4 HX4 HM4 hfit
          obtain ⟨W6, hW6⟩ : ∃ W6, w5.alloc (.cells #[.int .i64 rx, .int .i64 rc] 23) = W6 := ⟨_, rfl⟩
          have m6 : Mod (fun _ => False) w5 W6 := by subst hW6; exact (Mod.refl _ _).alloc _
          have HQ6 : Hid (W6.heap[w5.heap.size]? = some (.cells #[.int .i64 rx, .int .i64 rc] 23 (0, 0))) := by subst hW6; exact new_at _ _
          have HB6 := Lib.hid (HB5.out.mod m6 (fun x => x) (fun x => x))
          have HR6 := Lib.hid (HR5.out.mod m6 (fun x => x) (fun x => x))
          have HX6 := Lib.hid ((m6.block _ (lt_of HX5.out) (fun x => x)).trans HX5.out)
          have HM6 := Lib.hid (HM5.out.trans m6)
          have x0 : W6.cell? ⟨w.heap.size, 0, none⟩ = some (.int .i64 X) := (cell_of HX6.out 0).trans rfl
          have x1 : W6.cell? ⟨w.heap.size, 1, none⟩ = some (.int .i64 c) := (cell_of HX6.out 1).trans rfl
          clear HB5 HR5 HX5 HM5 m6
          go_wp2_with fail
          refine (hrfit _ HR6.out).mono ?_
          rintro e w7 ⟨rfl, hr7, m7⟩
          clear x0 x1
          have hq5 : w.heap.size < w5.heap.size := lt_of HX5'.out
          have hg'l : g' < w4.heap.size := HR4l
          have hs45 := HS45.out
          have hHQ7 := (m7.block _ (lt_of HQ6.out) (fun e => by omega)).trans HQ6.out
          have HR7 := Lib.hid hr7
          have HB7 := Lib.hid (HB6.out.mod m7 (by omega) (by omega))
          have HX7 := Lib.hid ((m7.block _ (lt_of HX6.out) (fun e => by omega)).trans HX6.out)
          have HM7 : Hid (Mod (fun _ => False) w w7) := HM6.out.trans' m7 (fun j hj e => by omega)
          have HQ7 := Lib.hid hHQ7
          clear hr7 m7 HB6 HR6 HX6 HM6 hrfit hHQ7
          obtain ⟨W8, hW8⟩ : ∃ W8, w7.alloc (.cells #[.int .i64 rx, .int .i64 rc] 23) = W8 := ⟨_, rfl⟩
          have m8 : Mod (fun _ => False) w7 W8 := by subst hW8; exact (Mod.refl _ _).alloc _
          have HP8 : Hid (W8.heap[w7.heap.size]? = some (.cells #[.int .i64 rx, .int .i64 rc] 23 (0, 0))) := by subst hW8; exact new_at _ _
          have HX8 := Lib.hid ((m8.block _ (lt_of HX7.out) (fun x => x)).trans HX7.out)
          have x0 : W8.cell? ⟨w.heap.size, 0, none⟩ = some (.int .i64 X) := (cell_of HX8.out 0).trans rfl
          have x1 : W8.cell? ⟨w.heap.size, 1, none⟩ = some (.int .i64 c) := (cell_of HX8.out 1).trans rfl
          go_wp2_with fail
          refine (fit_nil X c N W8).mono ?_
          rintro e w9 ⟨rfl, m9⟩
          clear x0 x1
          obtain ⟨W10, hW10⟩ : ∃ W10, w9.alloc (.cells #[.int .i64 0, .int .i64 0] 23) = W10 := ⟨_, rfl⟩
          have m10 : Mod (fun _ => False) w9 W10 := by subst hW10; exact (Mod.refl _ _).alloc _
          have hbz : W10.heap[w9.heap.size]? = some (.cells #[.int .i64 0, .int .i64 0] 23 (0, 0)) := by subst hW10; exact new_at _ _
          have z0 : W10.cell? ⟨w9.heap.size, 0, none⟩ = some (.int .i64 0) := (cell_of hbz 0).trans rfl
          have z1 : W10.cell? ⟨w9.heap.size, 1, none⟩ = some (.int .i64 0) := (cell_of hbz 1).trans rfl
          have z2 : W10.frozen? ⟨w9.heap.size, 0, none⟩ = false := free_of hbz 0
          have z3 : W10.frozen? ⟨w9.heap.size, 1, none⟩ = false := free_of hbz 1
          have z4 : W10.setCell ⟨w9.heap.size, 0, none⟩ (.int .i64 0) = W10 := by subst hW10; simp [go_sem]
          have z5 : W10.setCell ⟨w9.heap.size, 1, none⟩ (.int .i64 0) = W10 := by subst hW10; simp [go_sem]
          have m810 := m9.trans m10
          have m710 := m8.trans m810
          have HB10 := Lib.hid (HB7.out.mod m710 (fun x => x) (fun x => x))
          have HR10 := Lib.hid (HR7.out.mod m710 (fun x => x) (fun x => x))
          have HQ10 := Lib.hid ((m710.block _ (lt_of HQ7.out) (fun x => x)).trans HQ7.out)
          have HP10 := Lib.hid ((m810.block _ (lt_of HP8.out) (fun x => x)).trans HP8.out)
          have HM10 := Lib.hid (HM7.out.trans m710)
          have p0 : W10.cell? ⟨w5.heap.size, 0, none⟩ = some (.int .i64 rx) := (cell_of HQ10.out 0).trans rfl
          have p1 : W10.cell? ⟨w5.heap.size, 1, none⟩ = some (.int .i64 rc) := (cell_of HQ10.out 1).trans rfl
          have q0 : W10.cell? ⟨w7.heap.size, 0, none⟩ = some (.int .i64 rx) := (cell_of HP10.out 0).trans rfl
          have q1 : W10.cell? ⟨w7.heap.size, 1, none⟩ = some (.int .i64 rc) := (cell_of HP10.out 1).trans rfl
          have hby := fun W h => Bytes_any b g N RT W h
          have hrby := fun W h => rbytes_any r' g' N cap' RT W h HB10.out.out
          obtain ⟨bst, hbst⟩ : ∃ bst, bs (bytesT RT ((N + 7) / 8)) = bst := ⟨_, rfl⟩
          rw [hbst] at hby hrby
          clear hbst m8 m9 m10 m810 m710 HB7 HR7 HQ7 HP8 HM7 HX8 HX7
          go_wp2_with fail
          refine (hby _ HB10.out).mono ?_
          rintro e w11 ⟨rfl, m11⟩
          go_wp2_with fail
          refine (hrby _ (HR10.out.at_.mod m11 (fun x => x) (fun x => x))).mono ?_
          rintro e w12 ⟨rfl, m12⟩
          go_wp2_with fail
          refine (alive_any _).mono ?_
          rintro e w13 ⟨rfl, m13⟩
          go_wp2
          go_ret
          exact ⟨rfl, ((HM10.out.trans m11).trans m12).trans m13⟩

set_option maxRecDepth 100000 in
theorem contract (H : Type) (enc : TypeId × Value → H) (W : World) (base : Nat) (args : Array Value) (ds gs : List (DataW H)) (before : List MemPlace)
    (hval : ∀ (j : Nat) t v, Try.f5.params[j]? = some t → args[j]? = some v → Value.okWide Try.prog W .any base t v)
    (hW : DataW.Whole enc Try.prog Try.f5.params.toList Rows.extentFitsSpec.vars false W args.toList ds gs before) :
    Calls Try.prog 5 args W fun e W' => ∃ v, e = .returned v ∧ Rows.extentFitsSpec.post enc Try.prog Try.f5 false true false false W args v W' := by
  have hW' := hW
  obtain ⟨p, q, hA0, hV, rfl, hfz, hnd⟩ := hW
  have hA : DataW.TrodAll enc Try.prog W 0 (fun _ => true) true Try.f5.params.toList args.toList ds p := hA0
  rw [Try.params5] at hA hval
  obtain ⟨v0, vs0, d0, ds0, p0, q0, hargs, rfl, rfl, h0, r0⟩ := trodAll_cons hA
  obtain ⟨v1, vs1, d1, ds1, p1, q1, rfl, rfl, rfl, h1, r1⟩ := trodAll_cons r0
  obtain ⟨v2, vs2, d2, ds2, p2, q2, rfl, rfl, rfl, h2, r2⟩ := trodAll_cons r1
  obtain ⟨rfl, rfl, rfl⟩ := trodAll_nil r2
  obtain rfl : args = #[v0, v1, v2] := by cases args; simp_all
  obtain ⟨n, rfl, _, _, hmax1⟩ := open_int Try.underlying3 (hval 0 3 v0 rfl rfl) h0
  obtain ⟨a1, len, cap1, D, B, rfl, hlen, H1⟩ := arg_fsteps (hval 1 38 v1 rfl rfl) h1
  obtain ⟨X, c, rfl, hX, hc⟩ := arg_ext (hval 2 23 v2 rfl rfl) h2
  clear hA0
  refine (walk n a1 len cap1 D B X c W hlen hX hc H1).mono fun e W' ⟨he, hg⟩ => ?_
  subst he
  exact ⟨_, rfl, law_post hW' hg (by kernel_rfl) rfl rfl rfl rfl rfl⟩

set_option maxRecDepth 100000 in
theorem lifted (os : Os) (started : os.Started) (H : Type) (enc : TypeId × Value → H) :
    ReturnsInHanded {} Try.checked os 5 .any (Rows.extentFitsSpec.pre6 enc Try.prog Try.f5 Rows.extentFitsRow.domain false) (Rows.extentFitsSpec.post enc Try.prog Try.f5 false true false false) := by
  refine returnsInHanded_of_change (C := Try.checked) own_knob started (by kernel_rfl) Try.func5
    (ChangeSpec.witness6 (enc := enc) (C := Try.checked) false ⟨#[], #[.int .i64 0, .slice none 0 0, .agg #[.int .i64 0, .int .i64 0]], []⟩ 8 (by kernel_rfl) (by kernel_rfl) (by kernel_rfl) (by kernel_rfl)) ?_
  intro W base args ds gs before hval hW _ _
  exact contract H enc W base args ds gs before hval hW

theorem proved : Rows.ExtentFitsSaid :=
  OpenClaim.holds_of_wide 5 Try.f5 rfl rfl rfl rfl rfl rfl rfl ⟨rfl, rfl, rfl, rfl, rfl⟩ rfl rfl rfl rfl rfl (by kernel_rfl) Try.func5 (by kernel_rfl)
    (of_decide_eq_true (by kernel_rfl)) (by unfold Func.isWrapper; first | (rw [if_pos (by decide +kernel)]; kernel_rfl) | (rw [if_neg (by decide +kernel)]; exact ⟨rfl, rfl⟩))
    (fun os started H enc _ => lifted os started H enc)
end Go.Proofs.Ytfmlgleeojblkaa.extentFits
