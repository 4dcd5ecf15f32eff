/- The document's Pieces. -/
import Derived.Test.YtfmlgleeojblkaaExtSame
namespace Go.Proofs.Ytfmlgleeojblkaa
open Go.RowKit

theorem pcAt_cells (X : Int) (off n a : Nat) (T : Int) (hT : ((min 448 ((off + a) % 448 + n - a) : Nat) : Int) = T) : (pcAt X off n a).cells = [.int .i64 (X + ((off : Int) + a) / 448), .int .i64 (((off : Int) + a) % 448), .int .i64 T, .int .i64 a] := by
  subst hT
  simp only [Pc.cells, pcAt]
  rw [show (((off + a) / 448 : Nat) : Int) = ((off : Int) + a) / 448 from by omega, show (((off + a) % 448 : Nat) : Int) = ((off : Int) + a) % 448 from by omega]
theorem new_cells (w : World) (cs : List Value) (e : TypeId) : ∀ j u, cs[j]? = some u → (w.alloc (.cells cs.toArray e)).cell? ((⟨w.heap.size, 0, none⟩ : Addr).add j) = some u := by
  intro j u hj
  rw [show (⟨w.heap.size, 0, none⟩ : Addr).add j = ⟨w.heap.size, 0 + j, none⟩ from by unfold Addr.add; split <;> simp_all]
  rw [Nat.zero_add, cell_of (new_at w _), List.getElem?_toArray]
  exact hj
set_option maxRecDepth 100000 in
set_option maxHeartbeats 2000000 in
theorem rpieces_any (X c off n : Int) (w : World) :
    Calls Try.prog 10 #[.agg #[.int .i64 X, .int .i64 c], .int .i64 off, .int .i64 n] w fun e W' =>
      ∃ v, e = .returned v ∧ OwnA W' (w.heap.size + 1) 4 v (piecesT X c off n).length (flat (piecesT X c off n)) ∧ Mod (fun _ => False) w W' := by
  obtain ⟨W, hW⟩ : ∃ W, w.alloc (.cells #[.int .i64 X, .int .i64 c] 23) = W := ⟨_, rfl⟩
  have hb : W.heap[w.heap.size]? = some (.cells #[.int .i64 X, .int .i64 c] 23 (0, 0)) := by subst hW; exact new_at _ _
  have hm : Mod (fun _ => False) w W := by subst hW; exact (Mod.refl _ w).alloc _
  have d0 : W.cell? ⟨w.heap.size, 0, none⟩ = some (.int .i64 X) := (cell_of hb 0).trans rfl
  have d1 : W.cell? ⟨w.heap.size, 1, none⟩ = some (.int .i64 c) := (cell_of hb 1).trans rfl
  obtain ⟨R, hR⟩ : ∃ R, 448 * nblk c = R := ⟨_, rfl⟩
  have hRm : R ≤ 7168 := by have := nblk_le c; omega
  have hroom := fun W => rroom_any c W
  rw [hR] at hroom
  have hmayc := fun W => rmay_any X c W
  go_enter Try.func10, Try.ntmps10
  go_wp2_with fail
  refine (hmayc _).mono ?_
  rintro e w1 ⟨rfl, m1⟩
  have hb1 := (m1.block _ (lt_of hb) (fun x => x)).trans hb
  have e0 : w1.cell? ⟨w.heap.size, 0, none⟩ = some (.int .i64 X) := (cell_of hb1 0).trans rfl
  have e1 : w1.cell? ⟨w.heap.size, 1, none⟩ = some (.int .i64 c) := (cell_of hb1 1).trans rfl
  have HM := Lib.hid (hm.trans m1)
  have hs1 : w.heap.size + 1 ≤ w1.heap.size := lt_of hb1
  clear hmayc d0 d1 hW hb hm m1
  cases hok : okR X c off n with
  | false =>
    have hok2 := hok
    unfold okR at hok2
    rw [hR] at hok2
    cases hmb : mayB X c with
    | false => go_wp2
               go_ret
               rw [show piecesT X c off n = [] from by unfold piecesT; rw [if_neg (by rw [hok]; exact Bool.false_ne_true)]]
               exact ⟨_, rfl, OwnA.nil _ _ _, HM.out⟩
    | true =>
      rw [hmb] at hok2
      by_cases g1 : off < 0
      · have t1 : decide (off < 0) = true := by simp [g1]
        go_wp2
        go_ret
        rw [show piecesT X c off n = [] from by unfold piecesT; rw [if_neg (by rw [hok]; exact Bool.false_ne_true)]]
        exact ⟨_, rfl, OwnA.nil _ _ _, HM.out⟩
      have t1 : decide (off < 0) = false := by simp; omega
      by_cases g2 : n < 0
      · have t2 : decide (n < 0) = true := by simp [g2]
        go_wp2
        go_ret
        rw [show piecesT X c off n = [] from by unfold piecesT; rw [if_neg (by rw [hok]; exact Bool.false_ne_true)]]
        exact ⟨_, rfl, OwnA.nil _ _ _, HM.out⟩
      have t2 : decide (n < 0) = false := by simp; omega
      by_cases g3 : (R : Int) < n
      · have t3 : decide ((R : Int) < n) = true := by simp [g3]
        go_wp2_with fail
        refine (hroom _).mono ?_
        rintro e w1 ⟨rfl, rfl⟩
        go_wp2
        go_ret
        rw [show piecesT X c off n = [] from by unfold piecesT; rw [if_neg (by rw [hok]; exact Bool.false_ne_true)]]
        exact ⟨_, rfl, OwnA.nil _ _ _, HM.out⟩
      have t3 : decide ((R : Int) < n) = false := by simp; omega
      have t4 : decide ((R : Int) - n < off) = true := by
        simp only [Bool.true_and, Bool.and_eq_false_iff, decide_eq_false_iff_not] at hok2
        simp
        omega
      go_wp2_with fail
      refine (hroom _).mono ?_
      rintro e w1 ⟨rfl, rfl⟩
      go_wp2_with fail
      refine (hroom _).mono ?_
      rintro e w1 ⟨rfl, rfl⟩
      go_wp2
      go_ret
      rw [show piecesT X c off n = [] from by unfold piecesT; rw [if_neg (by rw [hok]; exact Bool.false_ne_true)]]
      exact ⟨_, rfl, OwnA.nil _ _ _, HM.out⟩
  | true =>
    have hpt : piecesT X c off n = pcs X off.toNat n.toNat (n.toNat + 1) 0 := by unfold piecesT; rw [if_pos hok]
    have hlen := piecesT_len X c off n
    rw [hpt] at hlen
    simp only [okR, Bool.and_eq_true, decide_eq_true_eq] at hok
    rw [hR] at hok
    obtain ⟨⟨⟨⟨hmb, g1⟩, g2⟩, g3⟩, g4⟩ := hok
    obtain ⟨off, rfl⟩ : ∃ o' : Nat, off = o' := ⟨off.toNat, by omega⟩
    obtain ⟨n, rfl⟩ : ∃ n' : Nat, n = n' := ⟨n.toNat, by omega⟩
    simp only [Int.toNat_natCast] at hlen hpt
    have hX := mayB_lo hmb
    rw [hmb]
    have t1 : decide ((off : Int) < 0) = false := by simp
    have t2 : decide ((n : Int) < 0) = false := by simp
    have t3 : decide (R < n) = false := by simp; omega
    have t4 : decide ((R : Int) - n < off) = false := by simp; omega
    go_wp2_with fail
    refine (hroom _).mono ?_
    rintro e w1 ⟨rfl, rfl⟩
    go_wp2_with fail
    refine (hroom _).mono ?_
    rintro e w1 ⟨rfl, rfl⟩
    go_wp2
    clear t1 t2 t3 t4 hroom e1
    have HLen := Lib.hid hlen
    have HPT := Lib.hid hpt
    clear hlen hpt
    go_loopw [7, 8] (fun v p wr => ∃ (k a : Nat) (pre : List Pc), p = .int .i64 a ∧ a ≤ n ∧ Hid (n + 1 ≤ k + a) ∧ Hid (pcs X off n (n + 1) 0 = pre ++ pcs X off n k a) ∧ OwnA wr (w.heap.size + 1) 4 v pre.length (flat pre) ∧
      Hid (wr.heap[w.heap.size]? = some (.cells #[.int .i64 X, .int .i64 c] 23 (0, 0))) ∧ Hid (Mod (fun _ => False) w wr)) (fun _ p _ => n - (intOf p).toNat)
    case atStart => exact ⟨n + 1, 0, [], rfl, Nat.zero_le _, by show _ ≤ _; omega, rfl, OwnA.nil _ _ _, hb1, HM⟩
    case round =>
      obtain ⟨k, a, pre, rfl, ha, HK, HP, hown, HB, HMr⟩ := hrel
      have e0 : wr.cell? ⟨w.heap.size, 0, none⟩ = some (.int .i64 X) := (cell_of HB.out 0).trans rfl
      by_cases hlt : a < n
      · have t3 : decide (a < n) = true := by simp [hlt]
        have hp60 : pre.length ≤ 17 := by
          have h := HLen.out
          rw [HP.out, List.length_append] at h
          omega
        obtain ⟨k, rfl⟩ : ∃ k', k = k' + 1 := ⟨k - 1, by have := HK.out; omega⟩
        have HP1 : Hid (pcs X off n (n + 1) 0 = pre ++ (pcAt X off n a :: pcs X off n k (a + ((pcAt X off n a).t - (pcAt X off n a).f)))) := by
          show _ = _
          rw [HP.out]
          simp [pcs, hlt]
        have HST := Lib.hid (pcAt_step X off n a hlt)
        by_cases hmin : ((off : Int) + a) % 448 + n - a < 448
        · have hcl := pcAt_cells X off n a (((off : Int) + a) % 448 + n - a) (by omega)
          have hsz : w.heap.size + 1 ≤ wr.heap.size := lt_of HB.out
          have A1 : Hid (OwnA (wr.alloc (.cells #[.int .i64 (X + ((off : Int) + a) / 448), .int .i64 (((off : Int) + a) % 448), .int .i64 (((off : Int) + a) % 448 + n - a), .int .i64 a] 31)) (w.heap.size + 1) 4 u7 pre.length (flat pre)) := hown.mod ((Mod.refl (fun _ => False) wr).alloc _) (fun _ _ x => x)
          have A2 : Hid (Src Try.prog 4 27 (.slice (some ⟨wr.heap.size, 0, none⟩) 1 1) 1 (pcAt X off n a).cells (wr.alloc (.cells #[.int .i64 (X + ((off : Int) + a) / 448), .int .i64 (((off : Int) + a) % 448), .int .i64 (((off : Int) + a) % 448 + n - a), .int .i64 a] 31))) := by
            rw [hcl]
            exact Src.ofSlice _ Try.underlying27 _ _ _ _ rfl (new_cells wr _ _) (by intro u hu; simp only [List.mem_cons, List.not_mem_nil, or_false] at hu; rcases hu with rfl | rfl | rfl | rfl <;> rfl)
          have A3 : Hid ((pre.length + 1) * 32 ≤ 140737488355328) := by show _ ≤ _; omega
          have A4 : Hid (pre.length + 1 ≤ 9223372036854775807) := by show _ ≤ _; omega
          have A5 : Hid (w.heap.size + 1 ≤ (wr.alloc (.cells #[.int .i64 (X + ((off : Int) + a) / 448), .int .i64 (((off : Int) + a) % 448), .int .i64 (((off : Int) + a) % 448 + n - a), .int .i64 a] 31)).heap.size) := by show _ ≤ _; rw [World.size_alloc]; omega
          clear hcl
          go_wp2_with (refine wpl_append rfl (.tmp 51) (.tmp 63) _ _ rfl (w.heap.size + 1) 31 (.agg #[.int .i64 0, .int .i64 0, .int .i64 0, .int .i64 0]) 4 32 Try.underlying27 info_piece rfl (by decide) u7 _ _ rfl A1.out _ _ _ rfl A2.out A3.out A4.out A5.out ?_; intro v' w3 hown' hgrow)
          go_roundw
          case rel =>
            have m3 : Hid (Mod (fun _ => False) w w3) := A1.out.thenMod (HMr.out.alloc _) hgrow (by omega)
            refine ⟨k, a + ((pcAt X off n a).t - (pcAt X off n a).f), pre ++ [pcAt X off n a], ?_, HST.out.2.2.1, ?_, ?_, ?_, ?_, m3⟩
            · congr 1
              simp only [pcAt]
              omega
            · have h1 := HK.out
              have h2 := HST.out.1
              show _ ≤ _
              omega
            · show _ = _
              rw [HP1.out, List.append_assoc]
              rfl
            · rw [List.length_append, List.length_singleton, flat_snoc]
              exact hown'
            · show _ = _
              rw [A1.out.keep hgrow (Nat.lt_succ_self _) (by rw [World.size_alloc]; omega)]
              exact alloc_keep HB.out
          case measure => simp [intOf]; omega
        · have hcl := pcAt_cells X off n a (448 : Int) (by omega)
          have hsz : w.heap.size + 1 ≤ wr.heap.size := lt_of HB.out
          have A1 : Hid (OwnA (wr.alloc (.cells #[.int .i64 (X + ((off : Int) + a) / 448), .int .i64 (((off : Int) + a) % 448), .int .i64 (448 : Int), .int .i64 a] 31)) (w.heap.size + 1) 4 u7 pre.length (flat pre)) := hown.mod ((Mod.refl (fun _ => False) wr).alloc _) (fun _ _ x => x)
          have A2 : Hid (Src Try.prog 4 27 (.slice (some ⟨wr.heap.size, 0, none⟩) 1 1) 1 (pcAt X off n a).cells (wr.alloc (.cells #[.int .i64 (X + ((off : Int) + a) / 448), .int .i64 (((off : Int) + a) % 448), .int .i64 (448 : Int), .int .i64 a] 31))) := by
            rw [hcl]
            exact Src.ofSlice _ Try.underlying27 _ _ _ _ rfl (new_cells wr _ _) (by intro u hu; simp only [List.mem_cons, List.not_mem_nil, or_false] at hu; rcases hu with rfl | rfl | rfl | rfl <;> rfl)
          have A3 : Hid ((pre.length + 1) * 32 ≤ 140737488355328) := by show _ ≤ _; omega
          have A4 : Hid (pre.length + 1 ≤ 9223372036854775807) := by show _ ≤ _; omega
          have A5 : Hid (w.heap.size + 1 ≤ (wr.alloc (.cells #[.int .i64 (X + ((off : Int) + a) / 448), .int .i64 (((off : Int) + a) % 448), .int .i64 (448 : Int), .int .i64 a] 31)).heap.size) := by show _ ≤ _; rw [World.size_alloc]; omega
          clear hcl
          go_wp2_with (refine wpl_append rfl (.tmp 51) (.tmp 63) _ _ rfl (w.heap.size + 1) 31 (.agg #[.int .i64 0, .int .i64 0, .int .i64 0, .int .i64 0]) 4 32 Try.underlying27 info_piece rfl (by decide) u7 _ _ rfl A1.out _ _ _ rfl A2.out A3.out A4.out A5.out ?_; intro v' w3 hown' hgrow)
          go_roundw
          case rel =>
            have m3 : Hid (Mod (fun _ => False) w w3) := A1.out.thenMod (HMr.out.alloc _) hgrow (by omega)
            refine ⟨k, a + ((pcAt X off n a).t - (pcAt X off n a).f), pre ++ [pcAt X off n a], ?_, HST.out.2.2.1, ?_, ?_, ?_, ?_, m3⟩
            · congr 1
              simp only [pcAt]
              omega
            · have h1 := HK.out
              have h2 := HST.out.1
              show _ ≤ _
              omega
            · show _ = _
              rw [HP1.out, List.append_assoc]
              rfl
            · rw [List.length_append, List.length_singleton, flat_snoc]
              exact hown'
            · show _ = _
              rw [A1.out.keep hgrow (Nat.lt_succ_self _) (by rw [World.size_alloc]; omega)]
              exact alloc_keep HB.out
          case measure => simp [intOf]; omega
      · have t3 : decide (a < n) = false := by simp; omega
        go_wp2
        go_ret
        have hq : pcs X off n (n + 1) 0 = pre := by
          rw [HP.out]
          cases k with
          | zero => simp [pcs]
          | succ k => simp [pcs, hlt]
        rw [HPT.out, hq]
        exact ⟨_, rfl, hown, HMr.out⟩
end Go.Proofs.Ytfmlgleeojblkaa
