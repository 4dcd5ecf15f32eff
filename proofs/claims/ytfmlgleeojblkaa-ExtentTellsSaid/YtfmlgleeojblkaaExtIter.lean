/- The iterator Pieces: its contract, over whatever loop that keeps what is not its own. -/
import Derived.Test.YtfmlgleeojblkaaBitsFind
import Derived.Test.YtfmlgleeojblkaaExt
namespace Go.Proofs.Ytfmlgleeojblkaa
open Go.RowKit Go.Shelf
attribute [local go_sem] Oper.semAt_some

/-- a piece -/
structure Pc where
  b : Int
  f : Nat
  t : Nat
  a : Nat
def Pc.v (p : Pc) : Value := .agg #[.int .i64 p.b, .int .i64 p.f, .int .i64 p.t, .int .i64 p.a]
/-- the piece at a -/
def pcAt (X : Int) (off n a : Nat) : Pc := ⟨X + ((off + a) / 448 : Nat), (off + a) % 448, min 448 ((off + a) % 448 + n - a), a⟩
def pcs (X : Int) (off n : Nat) : Nat → Nat → List Pc
  | 0, _ => []
  | k + 1, a => if a < n then pcAt X off n a :: pcs X off n k (a + ((pcAt X off n a).t - (pcAt X off n a).f)) else []
theorem pcAt_step (X : Int) (off n a : Nat) (h : a < n) : (pcAt X off n a).f < (pcAt X off n a).t ∧ (pcAt X off n a).t ≤ 448 ∧ a + ((pcAt X off n a).t - (pcAt X off n a).f) ≤ n ∧
    (a + ((pcAt X off n a).t - (pcAt X off n a).f) = n ∨ (off + (a + ((pcAt X off n a).t - (pcAt X off n a).f))) / 448 = (off + a) / 448 + 1) := by
  simp only [pcAt]
  omega

theorem pcAt_v (X : Int) (off n a : Nat) (T : Int) (hT : ((min 448 ((off + a) % 448 + n - a) : Nat) : Int) = T) : (pcAt X off n a).v = .agg #[.int .i64 (X + ((off : Int) + a) / 448), .int .i64 (((off : Int) + a) % 448), .int .i64 T, .int .i64 a] := by
  subst hT
  simp only [Pc.v, pcAt]
  rw [show (((off + a) / 448 : Nat) : Int) = ((off : Int) + a) / 448 from by omega, show (((off + a) % 448 : Nat) : Int) = ((off : Int) + a) % 448 from by omega]
/-- the own block of the value in the first cell of L -/
def ownOf (L : Nat) (W : World) : Option Nat := (W.cell? ⟨L, 0, none⟩).bind Value.ownBlock
/-- a round writes L, the row that L owns, and what is no cells -/
structure KeepL (L : Nat) (W W' : World) : Prop where
  mod : Mod (fun k => k = L ∨ some k = ownOf L W ∨ ∃ o, W.heap[k]? = some o ∧ o.isCells = false) W W'
  own : ownOf L W' = ownOf L W ∨ ∃ k, ownOf L W' = some k ∧ W.heap.size ≤ k ∧ k < W'.heap.size
theorem keepL_t {L : Nat} {A B C : World} (h : KeepL L A B) (k : KeepL L B C) : KeepL L A C := by
  refine ⟨⟨k.mod.os.trans h.mod.os, k.mod.tape.trans h.mod.tape, k.mod.output.trans h.mod.output, Nat.le_trans h.mod.size k.mod.size, fun i hi hs => ?_⟩, ?_⟩
  · have hB := h.mod.block i hi hs
    refine (k.mod.block i (Nat.lt_of_lt_of_le hi h.mod.size) fun hh => ?_).trans hB
    rcases hh with hh | hh | ⟨o, ho, hc⟩
    · exact hs (Or.inl hh)
    · rcases h.own with e | ⟨q, e, hq, _⟩
      · exact hs (Or.inr (Or.inl (hh.trans e)))
      · rw [e] at hh
        injection hh with hh
        omega
    · exact hs (Or.inr (Or.inr ⟨o, hB ▸ ho, hc⟩))
  · rcases k.own with e | ⟨q, e, hq, hq2⟩
    · rcases h.own with e2 | ⟨q, e2, hq, hq2⟩
      · exact Or.inl (e.trans e2)
      · exact Or.inr ⟨q, e.trans e2, hq, Nat.lt_of_lt_of_le hq2 k.mod.size⟩
    · exact Or.inr ⟨q, e, Nat.le_trans h.mod.size hq, hq2⟩
theorem ownOf_block {L : Nat} {W W' : World} (h : W'.heap[L]? = W.heap[L]?) : ownOf L W' = ownOf L W := by
  unfold ownOf
  rw [World.cell?_of_block (a := ⟨L, 0, none⟩) h]
theorem keepL_b {L : Nat} {w : World} (hL : L < w.heap.size) (W : World) (l : Nat) (o o' : Obj) (hl : w.heap.size ≤ l) (h : W.heap[l]? = some o) (hc : o.isCells = false) (_ : o.isWalk = false) : KeepL L W (W.putObj l o') := by
  have hg := grownBy_putObj' W l o'
  refine ⟨⟨hg.os, hg.tape, hg.output, hg.size, fun k hk hs => hg.block k hk fun e => ?_⟩, Or.inl (ownOf_block (World.putObj_heap_other (by omega)))⟩
  injection e with e
  subst e
  exact hs (Or.inr (Or.inr ⟨o, h, hc⟩))
theorem grown_of_mod {W W' : World} (h : Mod (fun _ => False) W W') : W.grownBy W' none := ⟨h.os, h.tape, h.output, h.size, fun k hk _ => h.block k hk (fun x => x)⟩

set_option maxRecDepth 100000 in
set_option maxHeartbeats 2000000 in
theorem pieces1_ok (m : Nat) (l Bx Bo Bn L : Nat) (X c : Int) (off n : Nat) (hmay : mayB X c = true) (hfit : off + n ≤ 448 * nblk c) (hX : 0 ≤ X ∧ X ≤ 16384) (hc : -9223372036854775808 ≤ c ∧ c ≤ 9223372036854775807) (J Jx : List Pc → World → Prop)
    (hY : ∀ pre x W, J pre W → pre.length < n + 1 → YieldAt Fence.wide (m - 1) Try.prog l #[x.v] W fun e W' =>
      (e = .returned (.bool true) ∧ J (pre ++ [x]) W' ∧ KeepL L W W') ∨ (e = .returned (.bool false) ∧ Jx (pre ++ [x]) W'))
    (W : World) (hJ : AbidesFrom W.heap.size J)
    (hbx : W.heap[Bx]? = some (.cells #[.int .i64 X, .int .i64 c] 23 (0, 0))) (hbo : W.heap[Bo]? = some (.cells #[.int .i64 off] 3 (0, 0))) (hbn : W.heap[Bn]? = some (.cells #[.int .i64 n] 3 (0, 0)))
    (hL : ownOf L W = none) (hne : L ≠ Bx ∧ L ≠ Bo ∧ L ≠ Bn) (hLl : L < W.heap.size) (h0 : J [] W) :
    CallsIn Fence.wide m Try.prog 29 #[.func (.yield l) #[] #[], .pointer (some ⟨Bx, 0, none⟩), .pointer (some ⟨Bo, 0, none⟩), .pointer (some ⟨Bn, 0, none⟩)] W fun e W' => (∃ v, e = .returned v) ∧
      ((∃ ys, ys = pcs X off n (n + 1) 0 ∧ J ys W') ∨ (∃ pre, pre <+: pcs X off n (n + 1) 0 ∧ Jx pre W')) := by
  obtain ⟨R, hR⟩ : ∃ R, 448 * nblk c = R := ⟨_, rfl⟩
  have hRm : R ≤ 7168 := by have := nblk_le c; omega
  have hroom := fun W => room_any c W
  rw [hR] at hroom hfit
  have hmayc := fun W => may_any X c W (by omega) hc
  rw [hmay] at hmayc
  have c0 : W.cell? ⟨Bx, 0, none⟩ = some (.int .i64 X) := (cell_of hbx 0).trans rfl
  have c1 : W.cell? ⟨Bx, 1, none⟩ = some (.int .i64 c) := (cell_of hbx 1).trans rfl
  refine callsIn_of_wp Try.func29 rfl trivial ?_ rfl
  simp only [Try.ntmps29, List.size_toArray, List.length_cons, List.length_nil, Nat.reduceAdd, Nat.reduceSub, Array.replicate_succ, Array.replicate_zero, List.push_toArray, List.append_toArray, List.nil_append, List.cons_append]
  gi_wp2_with fail
  refine ⟨trivial, fun h => (by cases h), (callsIn_wide.2 (hroom _)).mono ?_⟩
  rintro e W ⟨rfl, rfl⟩
  gi_wp2_with fail
  refine ⟨trivial, fun h => (by cases h), (callsIn_wide.2 (hmayc _)).mono ?_⟩
  rintro e w1 ⟨rfl, m1⟩
  have hbx1 := (m1.block _ (lt_of hbx) (fun x => x)).trans hbx
  have hbo1 := (m1.block _ (lt_of hbo) (fun x => x)).trans hbo
  have hbn1 := (m1.block _ (lt_of hbn) (fun x => x)).trans hbn
  have hL1 : ownOf L w1 = none := (ownOf_block (m1.block _ hLl (fun x => x))).trans hL
  have h01 : J [] w1 := hJ _ _ _ none h0 (grown_of_mod m1) (fun r e => by cases e)
  have HJ : Hid (∀ pre A B, J pre A → Mod (fun _ => False) A B → J pre B) := fun pre A B h hm => hJ _ _ _ none h (grown_of_mod hm) (fun r e => by cases e)
  have hs1 := m1.size
  have d2 : w1.cell? ⟨Bo, 0, none⟩ = some (.int .i64 off) := (cell_of hbo1 0).trans rfl
  have d3 : w1.cell? ⟨Bn, 0, none⟩ = some (.int .i64 n) := (cell_of hbn1 0).trans rfl
  have t0 : decide ((off : Int) < 0) = false := by simp
  have t0n : decide ((n : Int) < 0) = false := by simp
  have t1 : decide (R < n) = false := by simp; omega
  have t2 : decide ((R : Int) - n < off) = false := by simp; omega
  have hBl : Bx < w1.heap.size ∧ Bo < w1.heap.size ∧ Bn < w1.heap.size := ⟨lt_of hbx1, lt_of hbo1, lt_of hbn1⟩
  clear hroom hmayc hmay c0 c1 hbx hbo hbn hL h0 m1
  gi_wp2
  gi_loopw [6] (fun p wr => ∃ (k a : Nat) (pre : List Pc), p = .int .i64 a ∧ a ≤ n ∧ Hid (n + 1 ≤ k + a ∧ pre.length + k = n + 1) ∧ Hid (pcs X off n (n + 1) 0 = pre ++ pcs X off n k a) ∧ Hid (J pre wr) ∧
      Hid (wr.heap[Bx]? = some (.cells #[.int .i64 X, .int .i64 c] 23 (0, 0))) ∧ Hid (wr.heap[Bo]? = some (.cells #[.int .i64 off] 3 (0, 0))) ∧ Hid (wr.heap[Bn]? = some (.cells #[.int .i64 n] 3 (0, 0))) ∧
      Hid ((∀ q, ownOf L wr = some q → w1.heap.size ≤ q ∧ q < wr.heap.size) ∧ w1.heap.size ≤ wr.heap.size)) (fun p _ => n - (intOf p).toNat)
  case atStart => exact ⟨n + 1, 0, [], rfl, Nat.zero_le _, ⟨by omega, by simp⟩, rfl, h01, hbx1, hbo1, hbn1, ⟨fun q hq => (by rw [hL1] at hq; cases hq), Nat.le_refl _⟩⟩
  case round =>
    obtain ⟨k, a, pre, rfl, ha, HK, HP, HJp, HX, HO, HN, HQ⟩ := hrel
    have e0 : wr.cell? ⟨Bx, 0, none⟩ = some (.int .i64 X) := (cell_of HX.out 0).trans rfl
    have e2 : wr.cell? ⟨Bo, 0, none⟩ = some (.int .i64 off) := (cell_of HO.out 0).trans rfl
    have e3 : wr.cell? ⟨Bn, 0, none⟩ = some (.int .i64 n) := (cell_of HN.out 0).trans rfl
    by_cases hlt : a < n
    · have t3 : decide (a < n) = true := by simp [hlt]
      clear t0 t0n t1 t2 d2 d3 hbx1 hbo1 hbn1 hL1 h01
      obtain ⟨V, hV⟩ : ∃ V, wr.alloc (.cells #[.int .i64 (X + ((off : Int) + a) / 448), .int .i64 (((off : Int) + a) % 448), .int .i64 0, .int .i64 a] 31) = V := ⟨_, rfl⟩
      have hVb : V.heap[wr.heap.size]? = some (.cells #[.int .i64 (X + ((off : Int) + a) / 448), .int .i64 (((off : Int) + a) % 448), .int .i64 0, .int .i64 a] 31 (0, 0)) := by subst hV; exact new_at _ _
      have hVm : Mod (fun _ => False) wr V := by subst hV; exact (Mod.refl _ wr).alloc _
      have g3 : V.cell? ⟨Bn, 0, none⟩ = some (.int .i64 n) := (cell_of ((hVm.block _ (lt_of HN.out) (fun x => x)).trans HN.out) 0).trans rfl
      have g1 : V.cell? ⟨wr.heap.size, 1, none⟩ = some (.int .i64 (((off : Int) + a) % 448)) := (cell_of hVb 1).trans rfl
      have g2 : V.cell? ⟨wr.heap.size, 2, none⟩ = some (.int .i64 0) := (cell_of hVb 2).trans rfl
      have g2f : V.frozen? ⟨wr.heap.size, 2, none⟩ = false := free_of hVb 2
      by_cases hmin : ((off : Int) + a) % 448 + n - a < 448
      · have hxv := pcAt_v X off n a (((off : Int) + a) % 448 + n - a) (by omega)
        obtain ⟨V2, hV2⟩ : ∃ V2, V.setCell ⟨wr.heap.size, 2, none⟩ (.int .i64 (((off : Int) + a) % 448 + n - a)) = V2 := ⟨_, rfl⟩
        have hVb2 : V2.heap[wr.heap.size]? = some (.cells #[.int .i64 (X + ((off : Int) + a) / 448), .int .i64 (((off : Int) + a) % 448), .int .i64 (((off : Int) + a) % 448 + n - a), .int .i64 a] 31 (0, 0)) := by subst hV2; exact heap_set hVb 2 _
        have hVm2 : Mod (fun _ => False) wr V2 := by subst hV2; exact hVm.setCell (p := ⟨wr.heap.size, 2, none⟩) (Or.inr (Nat.le_refl _)) _
        have i0 : V2.cell? ⟨wr.heap.size, 0, none⟩ = some (.int .i64 (X + ((off : Int) + a) / 448)) := (cell_of hVb2 0).trans rfl
        have i1 : V2.cell? ⟨wr.heap.size, 1, none⟩ = some (.int .i64 (((off : Int) + a) % 448)) := (cell_of hVb2 1).trans rfl
        have i2 : V2.cell? ⟨wr.heap.size, 2, none⟩ = some (.int .i64 (((off : Int) + a) % 448 + n - a)) := (cell_of hVb2 2).trans rfl
        have i3 : V2.cell? ⟨wr.heap.size, 3, none⟩ = some (.int .i64 a) := (cell_of hVb2 3).trans rfl
        have hJV := HJ.out pre wr V2 HJp.out hVm2
        have HKo := HK.out
        obtain ⟨fn, tmps, assign, body, hy, hR2⟩ := hY pre (pcAt X off n a) V2 hJV (by omega)
        rw [hxv] at hy
        have HVb := Lib.hid hVb2
        have HVm := Lib.hid hVm2
        clear hVb2 hVm2 hVb hVm hxv hJV HKo
        have hLw : L < wr.heap.size := by have := HQ.out.2; omega
        obtain ⟨k, rfl⟩ : ∃ k', k = k' + 1 := ⟨k - 1, by have := HK.out; omega⟩
        have HP1 : Hid (pcs X off n (n + 1) 0 = pre ++ (pcAt X off n a :: pcs X off n k (a + ((pcAt X off n a).t - (pcAt X off n a).f)))) := by
          show _ = _
          rw [HP.out]
          simp [pcs, hlt]
        gi_wp2
        refine ⟨fun h => (by cases h), ?_⟩
        refine hR2.mono ?_
        rintro e W3 (⟨rfl, hJ3, hk3⟩ | ⟨rfl, hJx3⟩)
        · have hown2 : ownOf L V2 = ownOf L wr := ownOf_block (HVm.out.block L hLw (fun x => x))
          have hkeep : ∀ q cs e, V2.heap[q]? = some (.cells cs e (0, 0)) → q ≠ L → (q < w1.heap.size ∨ q = wr.heap.size) → W3.heap[q]? = some (.cells cs e (0, 0)) := fun q cs e hq hqL hqr => (hk3.mod.block q (lt_of hq) (fun hs => by
            rcases hs with hs | hs | ⟨o, ho, hc⟩
            · exact hqL hs
            · rw [hown2] at hs
              have := HQ.out.1 q hs.symm
              omega
            · rw [hq] at ho
              cases ho
              cases hc)).trans hq
          have hp3 := hkeep _ _ _ HVb.out (by omega) (Or.inr rfl)
          have HX3 := Lib.hid (hkeep Bx _ _ ((HVm.out.block Bx (lt_of HX.out) (fun x => x)).trans HX.out) (fun e => hne.1 e.symm) (Or.inl hBl.1))
          have HO3 := Lib.hid (hkeep Bo _ _ ((HVm.out.block Bo (lt_of HO.out) (fun x => x)).trans HO.out) (fun e => hne.2.1 e.symm) (Or.inl hBl.2.1))
          have HN3 := Lib.hid (hkeep Bn _ _ ((HVm.out.block Bn (lt_of HN.out) (fun x => x)).trans HN.out) (fun e => hne.2.2 e.symm) (Or.inl hBl.2.2))
          have HQ3 : Hid ((∀ q, ownOf L W3 = some q → w1.heap.size ≤ q ∧ q < W3.heap.size) ∧ w1.heap.size ≤ W3.heap.size) := by
            have z1 := HVm.out.size
            have z2 := hk3.mod.size
            have z3 := HQ.out.2
            refine ⟨fun q hq => ?_, by omega⟩
            rcases hk3.own with e | ⟨q', e, y1, y2⟩
            · rw [e, hown2] at hq
              have := HQ.out.1 q hq
              omega
            · rw [e] at hq
              injection hq with hq
              omega
          have j1 : W3.cell? ⟨wr.heap.size, 1, none⟩ = some (.int .i64 (((off : Int) + a) % 448)) := (cell_of hp3 1).trans rfl
          have j2 : W3.cell? ⟨wr.heap.size, 2, none⟩ = some (.int .i64 (((off : Int) + a) % 448 + n - a)) := (cell_of hp3 2).trans rfl
          have HJ3 := Lib.hid hJ3
          have hst := pcAt_step X off n a hlt
          have HST := Lib.hid hst
          clear hkeep hk3 hJ3 hst e0 e2 e3 i0 i1 i2 i3 g1 g2 g2f g3 hV2 hV
          gi_wp2
          go_roundw
          case rel =>
            refine ⟨k, a + ((pcAt X off n a).t - (pcAt X off n a).f), pre ++ [pcAt X off n a], ?_, HST.out.2.2.1, ?_, ?_, HJ3, HX3, HO3, HN3, HQ3⟩
            · congr 1
              simp only [pcAt]
              omega
            · have h1 := HK.out
              have h2 := HST.out.1
              exact ⟨by omega, by rw [List.length_append, List.length_singleton]; omega⟩
            · show _ = _
              rw [HP1.out, List.append_assoc]
              rfl
          case measure => simp [intOf]; omega
        · gi_wp2
          refine bodyPost_ret (results_none rfl _ _ _) rfl ?_
          exact ⟨⟨_, rfl⟩, .inr ⟨_, ⟨_, by rw [HP1.out, List.append_assoc]; rfl⟩, hJx3⟩⟩
      · have hxv := pcAt_v X off n a (448 : Int) (by omega)
        obtain ⟨V2, hV2⟩ : ∃ V2, V.setCell ⟨wr.heap.size, 2, none⟩ (.int .i64 (448 : Int)) = V2 := ⟨_, rfl⟩
        have hVb2 : V2.heap[wr.heap.size]? = some (.cells #[.int .i64 (X + ((off : Int) + a) / 448), .int .i64 (((off : Int) + a) % 448), .int .i64 (448 : Int), .int .i64 a] 31 (0, 0)) := by subst hV2; exact heap_set hVb 2 _
        have hVm2 : Mod (fun _ => False) wr V2 := by subst hV2; exact hVm.setCell (p := ⟨wr.heap.size, 2, none⟩) (Or.inr (Nat.le_refl _)) _
        have i0 : V2.cell? ⟨wr.heap.size, 0, none⟩ = some (.int .i64 (X + ((off : Int) + a) / 448)) := (cell_of hVb2 0).trans rfl
        have i1 : V2.cell? ⟨wr.heap.size, 1, none⟩ = some (.int .i64 (((off : Int) + a) % 448)) := (cell_of hVb2 1).trans rfl
        have i2 : V2.cell? ⟨wr.heap.size, 2, none⟩ = some (.int .i64 (448 : Int)) := (cell_of hVb2 2).trans rfl
        have i3 : V2.cell? ⟨wr.heap.size, 3, none⟩ = some (.int .i64 a) := (cell_of hVb2 3).trans rfl
        have hJV := HJ.out pre wr V2 HJp.out hVm2
        have HKo := HK.out
        obtain ⟨fn, tmps, assign, body, hy, hR2⟩ := hY pre (pcAt X off n a) V2 hJV (by omega)
        rw [hxv] at hy
        have HVb := Lib.hid hVb2
        have HVm := Lib.hid hVm2
        clear hVb2 hVm2 hVb hVm hxv hJV HKo
        have hLw : L < wr.heap.size := by have := HQ.out.2; omega
        obtain ⟨k, rfl⟩ : ∃ k', k = k' + 1 := ⟨k - 1, by have := HK.out; omega⟩
        have HP1 : Hid (pcs X off n (n + 1) 0 = pre ++ (pcAt X off n a :: pcs X off n k (a + ((pcAt X off n a).t - (pcAt X off n a).f)))) := by
          show _ = _
          rw [HP.out]
          simp [pcs, hlt]
        gi_wp2
        refine ⟨fun h => (by cases h), ?_⟩
        refine hR2.mono ?_
        rintro e W3 (⟨rfl, hJ3, hk3⟩ | ⟨rfl, hJx3⟩)
        · have hown2 : ownOf L V2 = ownOf L wr := ownOf_block (HVm.out.block L hLw (fun x => x))
          have hkeep : ∀ q cs e, V2.heap[q]? = some (.cells cs e (0, 0)) → q ≠ L → (q < w1.heap.size ∨ q = wr.heap.size) → W3.heap[q]? = some (.cells cs e (0, 0)) := fun q cs e hq hqL hqr => (hk3.mod.block q (lt_of hq) (fun hs => by
            rcases hs with hs | hs | ⟨o, ho, hc⟩
            · exact hqL hs
            · rw [hown2] at hs
              have := HQ.out.1 q hs.symm
              omega
            · rw [hq] at ho
              cases ho
              cases hc)).trans hq
          have hp3 := hkeep _ _ _ HVb.out (by omega) (Or.inr rfl)
          have HX3 := Lib.hid (hkeep Bx _ _ ((HVm.out.block Bx (lt_of HX.out) (fun x => x)).trans HX.out) (fun e => hne.1 e.symm) (Or.inl hBl.1))
          have HO3 := Lib.hid (hkeep Bo _ _ ((HVm.out.block Bo (lt_of HO.out) (fun x => x)).trans HO.out) (fun e => hne.2.1 e.symm) (Or.inl hBl.2.1))
          have HN3 := Lib.hid (hkeep Bn _ _ ((HVm.out.block Bn (lt_of HN.out) (fun x => x)).trans HN.out) (fun e => hne.2.2 e.symm) (Or.inl hBl.2.2))
          have HQ3 : Hid ((∀ q, ownOf L W3 = some q → w1.heap.size ≤ q ∧ q < W3.heap.size) ∧ w1.heap.size ≤ W3.heap.size) := by
            have z1 := HVm.out.size
            have z2 := hk3.mod.size
            have z3 := HQ.out.2
            refine ⟨fun q hq => ?_, by omega⟩
            rcases hk3.own with e | ⟨q', e, y1, y2⟩
            · rw [e, hown2] at hq
              have := HQ.out.1 q hq
              omega
            · rw [e] at hq
              injection hq with hq
              omega
          have j1 : W3.cell? ⟨wr.heap.size, 1, none⟩ = some (.int .i64 (((off : Int) + a) % 448)) := (cell_of hp3 1).trans rfl
          have j2 : W3.cell? ⟨wr.heap.size, 2, none⟩ = some (.int .i64 (448 : Int)) := (cell_of hp3 2).trans rfl
          have HJ3 := Lib.hid hJ3
          have hst := pcAt_step X off n a hlt
          have HST := Lib.hid hst
          clear hkeep hk3 hJ3 hst e0 e2 e3 i0 i1 i2 i3 g1 g2 g2f g3 hV2 hV
          gi_wp2
          go_roundw
          case rel =>
            refine ⟨k, a + ((pcAt X off n a).t - (pcAt X off n a).f), pre ++ [pcAt X off n a], ?_, HST.out.2.2.1, ?_, ?_, HJ3, HX3, HO3, HN3, HQ3⟩
            · congr 1
              simp only [pcAt]
              omega
            · have h1 := HK.out
              have h2 := HST.out.1
              exact ⟨by omega, by rw [List.length_append, List.length_singleton]; omega⟩
            · show _ = _
              rw [HP1.out, List.append_assoc]
              rfl
          case measure => simp [intOf]; omega
        · gi_wp2
          refine bodyPost_ret (results_none rfl _ _ _) rfl ?_
          exact ⟨⟨_, rfl⟩, .inr ⟨_, ⟨_, by rw [HP1.out, List.append_assoc]; rfl⟩, hJx3⟩⟩
    · have t3 : decide (a < n) = false := by simp; omega
      gi_wp2
      go_end0
      refine ⟨⟨_, rfl⟩, .inl ⟨pre, ?_, HJp.out⟩⟩
      rw [HP.out]
      cases k with
      | zero => simp [pcs]
      | succ k => simp [pcs, hlt]
end Go.Proofs.Ytfmlgleeojblkaa
