/- Package slices' DeleteFunc over waits. -/
import Derived.Test.YtcadkaedahoefaaFidDel3
namespace Go.Proofs.Ytcadkaedahoefaa
open Go.RowKit

theorem zero_wait (w : World) : (zeroValue 77).run Try.prog w = .ok (.agg #[.int .u16 0, .int .u16 0]) w := by kernel_rfl
def leftS (tag : Nat) (L : List (Nat × Nat)) : List (Nat × Nat) := L.filter fun p => !goneS tag p
def toldL (tag : Nat) (L : List (Nat × Nat)) : List Nat := (L.filter (toldS tag)).map Prod.fst
theorem tellN_all (tag : Nat) (L : List (Nat × Nat)) (T : List Nat) : tellN tag L T L.length = T ++ toldL tag L := by unfold tellN toldL; rw [List.take_length]
theorem left_step {tag : Nat} {L : List (Nat × Nat)} {j : Nat} (h : j < L.length) : leftS tag (L.take (j + 1)) = leftS tag (L.take j) ++ (if goneS tag L[j] = true then [] else [L[j]]) := by
  unfold leftS
  rw [filter_step _ h]
  congr 1
  by_cases hg : goneS tag L[j] = true
  · simp [hg]
  · simp [hg]
/-- while waits are struck out: the state of the row, of who is told -/
structure DelW (W : World) (g vc bt bd tag : Nat) (L : List (Nat × Nat)) (T : List Nat) (j a : Nat) (w : World) : Prop where
  len : (leftS tag (L.take j)).length = a
  row : RowD w g (vc * 2) (wts (leftS tag (L.take j))) (j * 2) (wts (L.drop j))
  told : ToldAt w bt bd tag (tellN tag L T j)
  mod : Mod (fun k => k = g ∨ bd ≤ k) W w
theorem DelW.skip {W w w' : World} {g vc bt bd tag : Nat} {L : List (Nat × Nat)} {T : List Nat} {j a : Nat} (h : DelW W g vc bt bd tag L T j a w) (hj : j < L.length) (hgb : g < bd) (hT : ToldAt w' bt bd tag (tellS tag L[j] (tellN tag L T j))) (hm : Mod (fun k => bd ≤ k) w w') (hg : goneS tag L[j] = true) : DelW W g vc bt bd tag L T (j + 1) a w' := by
  have e := left_step (tag := tag) hj
  rw [if_pos hg, List.append_nil] at e
  refine ⟨by rw [e]; exact h.len, ?_, by rw [tellN_succ hj]; exact hT, h.mod.trans (hm.mono fun k _ x => Or.inr x)⟩
  rw [e]
  have h2 := h.row.mod hm (by omega)
  rw [wts_drop hj] at h2
  have := h2.skip
  rw [show j * 2 + [Value.int .u16 L[j].1, .int .u16 L[j].2].length = (j + 1) * 2 by rw [Nat.add_mul]; rfl] at this
  exact this
theorem DelW.keep {W w w' : World} {g vc bt bd tag : Nat} {L : List (Nat × Nat)} {T : List Nat} {j a : Nat} (h : DelW W g vc bt bd tag L T j a w) (hj : j < L.length) (hvc : L.length ≤ vc) (haj : a < j) (hgb : g < bd) (hbt : bt ≠ g) (hT : ToldAt w' bt bd tag (tellS tag L[j] (tellN tag L T j))) (hm : Mod (fun k => bd ≤ k) w w') (hg : goneS tag L[j] = false) :
    DelW W g vc bt bd tag L T (j + 1) (a + 1) ((w'.setCell ⟨g, a * 2, none⟩ (.int .u16 L[j].1)).setCell ⟨g, a * 2 + 1, none⟩ (.int .u16 L[j].2)) ∧
      (∃ u, w'.cell? ⟨g, a * 2, none⟩ = some u) ∧ w'.frozen? ⟨g, a * 2, none⟩ = false ∧ (∃ u, w'.cell? ⟨g, a * 2 + 1, none⟩ = some u) ∧ w'.frozen? ⟨g, a * 2 + 1, none⟩ = false := by
  have e := left_step (tag := tag) hj
  rw [if_neg (by rw [hg]; simp)] at e
  have h2 := h.row.mod hm (by omega)
  rw [wts_drop hj] at h2
  have h3 := h2.skip
  rw [show j * 2 + [Value.int .u16 L[j].1, .int .u16 L[j].2].length = (j + 1) * 2 by rw [Nat.add_mul]; rfl] at h3
  have hl : (wts (leftS tag (L.take j))).length = a * 2 := by rw [wts_length, h.len]
  have p1 := h3.put (.int .u16 L[j].1) (by omega) (by omega)
  rw [hl] at p1
  have hl2 : (wts (leftS tag (L.take j)) ++ [Value.int .u16 L[j].1]).length = a * 2 + 1 := by rw [List.length_append, hl]; rfl
  have p2 := p1.put (.int .u16 L[j].2) (by omega) (by omega)
  rw [hl2, List.append_assoc, show [Value.int IntKind.u16 L[j].1] ++ [Value.int .u16 L[j].2] = wts [L[j]] from rfl, ← wts_append] at p2
  have m2 : Mod (· = g) w' ((w'.setCell ⟨g, a * 2, none⟩ (.int .u16 L[j].1)).setCell ⟨g, a * 2 + 1, none⟩ (.int .u16 L[j].2)) := (Mod.set1 _ _ _ _).trans (Mod.set1 _ _ _ _)
  refine ⟨⟨by rw [e, List.length_append, h.len]; rfl, by rw [e]; exact p2, by rw [tellN_succ hj]; exact hT.mod m2 hbt (fun k hk => by omega), (h.mod.trans (hm.mono fun k _ x => Or.inr x)).trans (m2.mono fun k _ x => Or.inl x)⟩, ?_, h3.free _ (by omega), ?_, h3.free _ (by omega)⟩
  · exact Option.isSome_iff_exists.1 (h3.ok _ (by omega))
  · exact Option.isSome_iff_exists.1 (h3.ok _ (by omega))
set_option maxHeartbeats 1000000 in
theorem indexw_nil (f : Value) (W : World) :
    Calls Try.prog 42 #[.slice none 0 0, f] W fun e w' => e = .returned (.int .i64 (-1)) ∧ w' = W := by
  go_enter Try.func42, Try.ntmps42
  go_wp2
  go_loop [4, 8] (fun r i => r = .int .i64 0 ∧ i = .int .i64 0) (fun _ _ => 0)
  case atStart => exact ⟨rfl, rfl⟩
  case round =>
    obtain ⟨rfl, rfl⟩ := hrel
    go_wp2
    go_ret
    exact ⟨rfl, rfl⟩
set_option maxHeartbeats 2000000 in
set_option maxRecDepth 100000 in
theorem delw_any (v : Value) (L : List (Nat × Nat)) (bt bd tag : Nat) (W : World) (h : OwnA W 0 2 v L.length (wts L)) (hL : L.length ≤ 100000) (hT : ToldAt W bt bd tag []) (hbt : ∀ k, some k = v.ownBlock → k ≠ bt ∧ k < bd) :
    Calls Try.prog 33 #[v, .func (.func 34) #[] #[.pointer (some ⟨bt, 0, none⟩), .pointer (some ⟨bd, 0, none⟩)]] W fun e w' =>
      ∃ v', e = .returned v' ∧ OwnA w' 0 2 v' (leftS tag L).length (wts (leftS tag L)) ∧ Mod (fun k => some k = v.ownBlock ∨ bd ≤ k) W w' ∧ (∀ k, some k = v'.ownBlock → some k = v.ownBlock) ∧ ToldAt w' bt bd tag (toldL tag L) := by
  rcases h.2 with ⟨rfl, h0⟩ | ⟨g, vc, rfl, _, hg1, hvc, _⟩
  · obtain rfl : L = [] := List.eq_nil_of_length_eq_zero h0
    have hI := indexw_nil (.func (.func 34) #[] #[.pointer (some ⟨bt, 0, none⟩), .pointer (some ⟨bd, 0, none⟩)]) W
    go_enter Try.func33, Try.ntmps33
    go_wp2_with fail
    refine hI.mono ?_
    rintro e w1 ⟨rfl, rfl⟩
    go_wp2
    go_ret
    exact ⟨_, rfl, OwnA.nil _ _ _, Mod.refl _ _, fun k hk => hk, hT⟩
  have hgb : g < bd := (hbt g rfl).2
  have hgt : bt ≠ g := fun e => (hbt g rfl).1 e.symm
  have hrow : RowD W g (vc * 2) [] 0 (wts L) := by
    have := h.rowD (A := []) (B := wts L)
    exact this
  have hI := indexw_any g vc L bt bd tag [] W hrow hgb hvc (by simp; omega) hT
  have HO := Lib.hid h
  have HRow := Lib.hid hrow
  clear h hrow
  go_enter Try.func33, Try.ntmps33
  go_wp2_with fail
  refine hI.mono ?_
  rintro e w1 ⟨hi, m1⟩
  rcases hi with ⟨rfl, hno, hT1⟩ | ⟨i, rfl, hil, hit, hia, hT1⟩
  · have HF : Hid (leftS tag L = L) := List.filter_eq_self.2 fun p hp => by rw [hno p hp]; rfl
    have HF2 : Hid (toldL tag L = []) := by
      show _ = _
      unfold toldL
      rw [List.map_eq_nil_iff, List.filter_eq_nil_iff]
      intro p hp
      rw [told_gone (hno p hp)]
      simp
    have HM := Lib.hid m1
    have HT1 := Lib.hid hT1
    clear hno hI m1 hT1
    go_wp2
    go_ret
    exact ⟨_, rfl, by rw [HF.out]; exact HO.out.modB HM.out fun k hk x => by have := (hbt k hk).2; omega, HM.out.mono fun k _ x => Or.inr x, fun k hk => hk, by rw [HF2.out]; exact HT1.out⟩
  · have t0 : ((i : Int) == -1) = false := by simp
    have hD0 : DelW W g vc bt bd tag L [] i i W := by
      have hl0 : leftS tag (L.take i) = L.take i := List.filter_eq_self.2 fun p hp => by rw [hia p hp]; rfl
      have ht0 : tellN tag L [] i = [] := by
        unfold tellN
        rw [List.nil_append, List.map_eq_nil_iff, List.filter_eq_nil_iff]
        intro p hp
        rw [told_gone (hia p hp)]
        simp
      refine ⟨by rw [hl0, List.length_take]; omega, ?_, by rw [ht0]; exact hT, Mod.refl _ _⟩
      rw [hl0]
      have h2 := HO.out
      rw [← List.take_append_drop i L, wts_append] at h2
      have h3 := h2.rowD
      rw [wts_length, List.length_take, Nat.min_eq_left (by omega)] at h3
      exact h3
    have ht0 : tellN tag L [] i = [] := by
      unfold tellN
      rw [List.nil_append, List.map_eq_nil_iff, List.filter_eq_nil_iff]
      intro p hp
      rw [told_gone (hia p hp)]
      simp
    have HD : Hid (DelW W g vc bt bd tag L [] (i + 1) i w1) := hD0.skip hil hgb (by rw [ht0]; exact hT1) m1 hit
    clear hD0 ht0 hT1 m1 hit hia hI hT
    go_wp2
    go_loopw [5, 6] (fun ii jj wr => ∃ a j : Nat, a < j ∧ j ≤ L.length ∧ ii = .int .i64 a ∧ jj = .int .i64 j ∧ Hid (DelW W g vc bt bd tag L [] j a wr)) (fun _ jj _ => L.length - (intOf jj).toNat)
    case atStart => exact ⟨i, i + 1, by omega, by omega, rfl, by go_num, HD⟩
    case round =>
      obtain ⟨a, j, haj, hj, rfl, rfl, HDr⟩ := hrel
      clear HO HRow HD
      by_cases hjl : j < L.length
      · have t5 : decide ((j : Int) < (L.length : Int)) = true := by simp; omega
        have j1 : (0 : Int) ≤ (j : Int) := by omega
        have j2 : (j : Int) < (L.length : Int) := by omega
        have j3 : (L.length : Int) ≤ (vc : Int) := by omega
        have j4 : (0 : Int) ≤ (a : Int) := by omega
        have j5 : (a : Int) < (L.length : Int) := by omega
        have hwr := HDr.out.row.lt
        obtain ⟨c0, c1⟩ := wts_at HDr.out.row hjl
        have hTr := HDr.out.told
        have hbd : bd < wr.heap.size := by obtain ⟨_, h, _⟩ := hTr.box; exact lt_of h
        obtain ⟨x, hx⟩ : ∃ x, L[j].1 = x := ⟨_, rfl⟩
        obtain ⟨y, hy⟩ : ∃ y, L[j].2 = y := ⟨_, rfl⟩
        have hpe : L[j] = (x, y) := by rw [← hx, ← hy]
        rw [hx] at c0
        rw [hy] at c1
        obtain ⟨W2, hW2⟩ : ∃ W2, wr.alloc (.cells #[.int .u16 x, .int .u16 y] 77) = W2 := ⟨_, rfl⟩
        have hB : W2.heap[wr.heap.size]? = some (.cells #[.int .u16 x, .int .u16 y] 77 (0, 0)) := by subst hW2; exact new_at _ _
        have m1 : Mod (fun k => bd ≤ k) wr W2 := by subst hW2; exact (Mod.refl _ _).alloc _
        have b0 : W2.cell? ⟨wr.heap.size, 0, none⟩ = some (.int .u16 x) := (cell_of hB 0).trans rfl
        have b1 : W2.cell? ⟨wr.heap.size, 1, none⟩ = some (.int .u16 y) := (cell_of hB 1).trans rfl
        have hT2 : ToldAt W2 bt bd tag (tellN tag L [] j) := by
          have m0 : Mod (fun _ => False) wr W2 := by subst hW2; exact (Mod.refl _ _).alloc _
          exact hTr.mod m0 (fun x => x) (fun _ _ x => x)
        have hNo : ∀ k, toldF W2 bd k → bd ≤ k ∧ k < wr.heap.size := fun k hk => toldF_lt hTr (toldF_same (by subst hW2; exact Below.heap_alloc _ _ _ hbd) hk)
        have HNo := Lib.hid hNo
        have hE := end2_any bt bd x y tag (tellN tag L [] j) W2 hT2 (by have := tellN_len (tag := tag) (L := L) (T := []) j; simp at this; omega)
        have HB := Lib.hid hB
        clear hTr hT2 hB hNo
        cases hg : goneS tag (x, y) with
        | true =>
          rw [hg] at hE
          have hsk := fun w' hT' hm => HDr.out.skip (w' := w') hjl hgb hT' hm (by rw [hpe]; exact hg)
          have HSk := Lib.hid hsk
          have HP := Lib.hid hpe
          have M1 := Lib.hid m1
          clear hsk hx hy hpe hg m1
          go_wp2_with fail
          refine hE.mono ?_
          rintro e w3 ⟨rfl, hT3, m3⟩
          have HD2 : Hid (DelW W g vc bt bd tag L [] (j + 1) a w3) := HSk.out w3 (by rw [HP.out]; exact hT3) (M1.out.trans (m3.mono fun k _ hk => (HNo.out k hk).1))
          clear hT3 m3
          go_wp2
          go_roundw
          case rel => exact ⟨a, j + 1, by omega, hjl, rfl, by go_num, HD2⟩
          case measure => simp [intOf]; omega
        | false =>
          rw [hg] at hE
          have hkp := fun w' hT' hm => HDr.out.keep (w' := w') hjl hvc haj hgb hgt hT' hm (by rw [hpe]; exact hg)
          rw [hx, hy] at hkp
          have HKp := Lib.hid hkp
          have HP := Lib.hid hpe
          have M1 := Lib.hid m1
          clear hkp hx hy hpe hg m1
          go_wp2_with fail
          refine hE.mono ?_
          rintro e w3 ⟨rfl, hT3, m3⟩
          obtain ⟨p1, ⟨u0, p2⟩, p3, ⟨u1, p4⟩, p5⟩ := HKp.out w3 (by rw [HP.out]; exact hT3) (M1.out.trans (m3.mono fun k _ hk => (HNo.out k hk).1))
          have HD2 := Lib.hid p1
          have hbx := m3.block wr.heap.size (lt_of HB.out) (fun hk => by have := (HNo.out _ hk).2; omega)
          have d0 : w3.cell? ⟨wr.heap.size, 0, none⟩ = some (.int .u16 x) := (World.cell?_of_block (a := ⟨wr.heap.size, 0, none⟩) hbx).trans b0
          have d1 : w3.cell? ⟨wr.heap.size, 1, none⟩ = some (.int .u16 y) := (World.cell?_of_block (a := ⟨wr.heap.size, 1, none⟩) hbx).trans b1
          clear hbx
          clear hT3 m3 p1
          go_wp2
          go_roundw
          case rel => exact ⟨a + 1, j + 1, by omega, hjl, by go_num, by go_num, HD2⟩
          case measure => simp [intOf]; omega
      · obtain rfl : j = L.length := by omega
        have t5 : decide ((L.length : Int) < (L.length : Int)) = false := by simp
        obtain ⟨hla, hra, hto, hmo⟩ := HDr.out
        rw [List.take_length] at hra hla
        rw [List.drop_length] at hra
        rw [tellN_all, List.nil_append] at hto
        have hlw : (wts (leftS tag L)).length = a * 2 := by rw [wts_length, hla]
        obtain ⟨w2, hcl, hr2, hm2⟩ := clear_row (P := Try.prog) 72 77 (.agg #[.int .u16 0, .int .u16 0]) Try.underlying72 zero_wait 2 rfl (by decide) (by intro u hu; simp [Value.cells] at hu; subst hu; rfl) wr g (a * 2) (L.length - a) (vc - a) (vc * 2) (L.length * 2) _ (by omega) (by omega) hra (by omega)
        have HEnd : Hid (OwnA w2 0 2 (.slice (some ⟨g, 0, none⟩) a vc) (leftS tag L).length (wts (leftS tag L))) := by
          have := hr2.own (n := a) hlw (by omega)
          rw [← hla] at this
          rw [← hla]
          exact this
        have HM2 := Lib.hid (hmo.trans (hm2.mono fun k _ x => Or.inl x))
        have HT2 : Hid (ToldAt w2 bt bd tag (toldL tag L)) := hto.mod hm2 hgt (fun k hk => by omega)
        have i1 : (a : Int) ≤ (L.length : Int) := by omega
        have i2 : (0 : Int) ≤ (a : Int) := by omega
        have i3 : (L.length : Int) ≤ (vc : Int) := by omega
        have i4 : (a : Int) ≤ (vc : Int) := by omega
        clear hra hla hr2 hm2 hto hmo hlw HDr
        go_wp2
        go_ret
        exact ⟨_, rfl, HEnd.out, HM2.out.mono fun k _ e => e.imp (fun e => by subst e; rfl) id, fun k hk => hk, HT2.out⟩
end Go.Proofs.Ytcadkaedahoefaa
