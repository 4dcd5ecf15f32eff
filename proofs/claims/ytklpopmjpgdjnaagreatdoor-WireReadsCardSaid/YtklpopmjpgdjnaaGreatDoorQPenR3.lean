/- Package wire's pen, reading: stats. -/
import Derived.Test.YtklpopmjpgdjnaaGreatDoorQPenR2
import Derived.Test.YtklpopmjpgdjnaaGreatDoorQStatDec
import Derived.Test.YtklpopmjpgdjnaaGreatDoorQGc
import Derived.Deep.DeepCutAuto
set_option linter.unusedVariables false
set_option linter.unusedSimpArgs false
namespace Go.Proofs.YtklpopmjpgdjnaaGreatDoor
open Go.RowKit

theorem rdStatB_ok {r : Rd} (h : r.s.size ≤ maxLen ∧ r.at_ ≤ r.s.size) : (rdStatB r).2.s.size ≤ maxLen ∧ (rdStatB r).2.at_ ≤ (rdStatB r).2.s.size := by
  have h2 := Rd.num_ok 2 h
  exact ⟨by unfold rdStatB; rw [Rd.bytes_s]; exact h2.1, Rd.bytes_at _ _ h2.2⟩
theorem st_len (s : St) : s.cells.length = 13 := rfl
theorem st_one (s : St) : ∀ u ∈ s.cells, u.oneCell' = true := by
  intro u hu
  simp only [St.cells, List.mem_cons, List.not_mem_nil, or_false] at hu
  rcases hu with rfl | rfl | rfl | rfl | rfl | rfl | rfl | rfl | rfl | rfl | rfl | rfl | rfl <;> rfl
theorem wayA {W w1 w2 w3 : World} {br : Nat} {o : Obj} (hb : br < W.heap.size) (m1 : Mod (· = br) (W.alloc (.cells #[.int .u16 0, .int .u32 0, .int .u8 0, .int .u32 0, .int .u64 0, .int .u32 0, .int .u32 0, .int .u32 0, .int .u64 0, .string { data := #[] }, .string { data := #[] }, .string { data := #[] }, .string { data := #[] }] 31)).drew w1) (m2 : Mod (· = br) w1 w2) (m3 : Mod (fun _ => False) w2 w3) (h2 : w2.heap[br]? = some o) :
    w3.heap[W.heap.size]? = some (.cells #[.int .u16 0, .int .u32 0, .int .u8 0, .int .u32 0, .int .u64 0, .int .u32 0, .int .u32 0, .int .u32 0, .int .u64 0, .string { data := #[] }, .string { data := #[] }, .string { data := #[] }, .string { data := #[] }] 31 (0, 0)) ∧ Mod (· = br) W w3 ∧ W.heap.size ≤ W.heap.size ∧ w3.heap[br]? = some o := by
  have h0 : (W.alloc (.cells #[.int .u16 0, .int .u32 0, .int .u8 0, .int .u32 0, .int .u64 0, .int .u32 0, .int .u32 0, .int .u32 0, .int .u64 0, .string { data := #[] }, .string { data := #[] }, .string { data := #[] }, .string { data := #[] }] 31)).drew.heap[W.heap.size]? = some (.cells #[.int .u16 0, .int .u32 0, .int .u8 0, .int .u32 0, .int .u64 0, .int .u32 0, .int .u32 0, .int .u32 0, .int .u64 0, .string { data := #[] }, .string { data := #[] }, .string { data := #[] }, .string { data := #[] }] 31 (0, 0)) := new_at W _
  have s1 := lt_of h0
  have h1 := (m1.block _ s1 (fun e => by omega)).trans h0
  have h3 := (m2.block _ (lt_of h1) (fun e => by omega)).trans h1
  exact ⟨(m3.block _ (lt_of h3) (fun x => x)).trans h3, (((Mod.refl (· = br) W).alloc _).drew.trans (m1.trans m2)).trans (m3.mono fun _ _ x => x.elim), Nat.le_refl _, (m3.block br (lt_of h2) (fun x => x)).trans h2⟩
theorem wayB {W w1 w2 w3 : World} {br : Nat} {o : Obj} (hb : br < W.heap.size) (m1 : Mod (· = br) W.drew w1) (m2 : Mod (· = br) (w1.alloc (.cells #[.int .u16 0, .int .u32 0, .int .u8 0, .int .u32 0, .int .u64 0, .int .u32 0, .int .u32 0, .int .u32 0, .int .u64 0, .string { data := #[] }, .string { data := #[] }, .string { data := #[] }, .string { data := #[] }] 31)) w2) (m3 : Mod (fun _ => False) w2 w3) (h2 : w2.heap[br]? = some o) :
    w3.heap[w1.heap.size]? = some (.cells #[.int .u16 0, .int .u32 0, .int .u8 0, .int .u32 0, .int .u64 0, .int .u32 0, .int .u32 0, .int .u32 0, .int .u64 0, .string { data := #[] }, .string { data := #[] }, .string { data := #[] }, .string { data := #[] }] 31 (0, 0)) ∧ Mod (· = br) W w3 ∧ W.heap.size ≤ w1.heap.size ∧ w3.heap[br]? = some o := by
  have hs : W.heap.size ≤ w1.heap.size := m1.size
  have h0 : (w1.alloc (.cells #[.int .u16 0, .int .u32 0, .int .u8 0, .int .u32 0, .int .u64 0, .int .u32 0, .int .u32 0, .int .u32 0, .int .u64 0, .string { data := #[] }, .string { data := #[] }, .string { data := #[] }, .string { data := #[] }] 31)).heap[w1.heap.size]? = some (.cells #[.int .u16 0, .int .u32 0, .int .u8 0, .int .u32 0, .int .u64 0, .int .u32 0, .int .u32 0, .int .u32 0, .int .u64 0, .string { data := #[] }, .string { data := #[] }, .string { data := #[] }, .string { data := #[] }] 31 (0, 0)) := new_at w1 _
  have h3 := (m2.block _ (lt_of h0) (fun e => by omega)).trans h0
  exact ⟨(m3.block _ (lt_of h3) (fun x => x)).trans h3, ((m1.ofDrew.alloc _).trans m2).trans (m3.mono fun _ _ x => x.elim), hs, (m3.block br (lt_of h2) (fun x => x)).trans h2⟩
theorem wayC {W w1 w2 w3 : World} {br : Nat} {o : Obj} (hb : br < W.heap.size) (m1 : Mod (· = br) W.drew w1) (m2 : Mod (· = br) w1 w2) (m3 : Mod (fun _ => False) (w2.alloc (.cells #[.int .u16 0, .int .u32 0, .int .u8 0, .int .u32 0, .int .u64 0, .int .u32 0, .int .u32 0, .int .u32 0, .int .u64 0, .string { data := #[] }, .string { data := #[] }, .string { data := #[] }, .string { data := #[] }] 31)) w3) (h2 : w2.heap[br]? = some o) :
    w3.heap[w2.heap.size]? = some (.cells #[.int .u16 0, .int .u32 0, .int .u8 0, .int .u32 0, .int .u64 0, .int .u32 0, .int .u32 0, .int .u32 0, .int .u64 0, .string { data := #[] }, .string { data := #[] }, .string { data := #[] }, .string { data := #[] }] 31 (0, 0)) ∧ Mod (· = br) W w3 ∧ W.heap.size ≤ w2.heap.size ∧ w3.heap[br]? = some o := by
  have h0 : (w2.alloc (.cells #[.int .u16 0, .int .u32 0, .int .u8 0, .int .u32 0, .int .u64 0, .int .u32 0, .int .u32 0, .int .u32 0, .int .u64 0, .string { data := #[] }, .string { data := #[] }, .string { data := #[] }, .string { data := #[] }] 31)).heap[w2.heap.size]? = some (.cells #[.int .u16 0, .int .u32 0, .int .u8 0, .int .u32 0, .int .u64 0, .int .u32 0, .int .u32 0, .int .u32 0, .int .u64 0, .string { data := #[] }, .string { data := #[] }, .string { data := #[] }, .string { data := #[] }] 31 (0, 0)) := new_at w2 _
  have hA : (w2.alloc (.cells #[.int .u16 0, .int .u32 0, .int .u8 0, .int .u32 0, .int .u64 0, .int .u32 0, .int .u32 0, .int .u32 0, .int .u64 0, .string { data := #[] }, .string { data := #[] }, .string { data := #[] }, .string { data := #[] }] 31)).heap[br]? = some o := alloc_keep h2
  exact ⟨(m3.block _ (lt_of h0) (fun x => x)).trans h0, ((m1.ofDrew.trans m2).alloc _).trans (m3.mono fun _ _ x => x.elim), (m1.ofDrew.trans m2).size, (m3.block br (lt_of hA) (fun x => x)).trans hA⟩
theorem wayD {W w1 w2 w3 : World} {br : Nat} {o : Obj} (m1 : Mod (· = br) W.drew w1) (m2 : Mod (· = br) w1 w2) (m3 : Mod (fun _ => False) w2 w3) (h2 : w2.heap[br]? = some o) : Mod (· = br) W w3 ∧ w3.heap[br]? = some o :=
  ⟨(m1.ofDrew.trans m2).trans (m3.mono fun _ _ x => x.elim), (m3.block br (lt_of h2) (fun x => x)).trans h2⟩
set_option maxHeartbeats 4000000 in
set_option maxRecDepth 100000 in
theorem stat2_r (bp br bb : Nat) (F : Nat → Prop) (out : List UInt8) (lg wg : Bool) (r : Rd) (w : World) (h : PenAt w F bp 1 out br lg wg) (hc : w.cell? ⟨bb, 0, none⟩ = some (.pointer (some ⟨bp, 0, none⟩))) (hbb : bb ≠ br) (hbF : ¬ F bb) (hF : ∀ k, F k → k ≠ br) (hr : w.heap[br]? = some (rdO r)) (hok : r.s.size ≤ maxLen ∧ r.at_ ≤ r.s.size) :
    Calls Tryz.prog 127 #[.pointer (some ⟨bb, 0, none⟩)] w fun e w' => e = .returned (.agg (decS (rdStatB r).1).1.cells.toArray) ∧ w'.heap[br]? = some (rdO (rdStatB r).2) ∧ PenAt w' F bp 1 out br lg (wg || decide ((decS (rdStatB r).1).2 ≠ 0)) ∧ Mod (fun k => k = br ∨ F k) w w' := by
  obtain ⟨W, hW⟩ : ∃ W, w.alloc (.cells #[.int .u16 0, .int .u32 0, .int .u8 0, .int .u32 0, .int .u64 0, .int .u32 0, .int .u32 0, .int .u32 0, .int .u64 0, .string { data := #[] }, .string { data := #[] }, .string { data := #[] }, .string { data := #[] }] 31) = W := ⟨_, rfl⟩
  have hz : W.heap[w.heap.size]? = some (.cells #[.int .u16 0, .int .u32 0, .int .u8 0, .int .u32 0, .int .u64 0, .int .u32 0, .int .u32 0, .int .u32 0, .int .u64 0, .string { data := #[] }, .string { data := #[] }, .string { data := #[] }, .string { data := #[] }] 31 (0, 0)) := by subst hW; exact new_at _ _
  have m0 : Mod (fun _ => False) w W := by subst hW; exact (Mod.refl _ w).alloc _
  have hbp : bp ≠ br := hF bp h.fb
  have hrl := lt_of hr
  have hFl := Lib.hid h.lt
  have hW1 := h.mod m0 (fun _ x => x.elim)
  obtain ⟨_, c3, _, _, _, _⟩ := hW1.cells
  have hS0 : ((W.drew).cell? ⟨bb, 0, none⟩ = some (.pointer (some ⟨bp, 0, none⟩)) ∧ (W.drew).cell? ⟨bp, 3, none⟩ = some (.pointer (some ⟨br, 0, none⟩))) := ⟨keepR m0 hc, c3⟩
  have hSW : ((W).cell? ⟨bb, 0, none⟩ = some (.pointer (some ⟨bp, 0, none⟩)) ∧ (W).cell? ⟨bp, 3, none⟩ = some (.pointer (some ⟨br, 0, none⟩))) := hS0
  have kD : ∀ U : World, ((U).cell? ⟨bb, 0, none⟩ = some (.pointer (some ⟨bp, 0, none⟩)) ∧ (U).cell? ⟨bp, 3, none⟩ = some (.pointer (some ⟨br, 0, none⟩))) → ((U.drew).cell? ⟨bb, 0, none⟩ = some (.pointer (some ⟨bp, 0, none⟩)) ∧ (U.drew).cell? ⟨bp, 3, none⟩ = some (.pointer (some ⟨br, 0, none⟩))) := fun U h => h
  have hrW : W.drew.heap[br]? = some (rdO r) := (m0.block br hrl (fun x => x)).trans hr
  have hrW2 : br < W.heap.size := lt_of hrW
  have hU := fun X (hX : X.heap[br]? = some (rdO r)) => U16_any br r X hX hok.1 hok.2
  have hB := fun X (hX : X.heap[br]? = some (rdO (r.num 2).2)) => bytes_any br (r.num 2).2 ((r.num 2).1 : Nat) X hX (Rd.num_ok 2 hok).1 (Rd.num_ok 2 hok).2
  have hlt : (r.num 2).1 < 65536 := Rd.num_lt r 2
  have hD := fun X => dec_any (rdStatB r).1 X (Nat.le_trans (Rd.bytes_size_le _ _) (by unfold maxLen; omega))
  have hV : rdStatB r = (r.num 2).2.bytes ((r.num 2).1 : Nat) := rfl
  rw [← hV] at hB
  have hw : IntKind.i64.wrap ((r.num 2).1 : Int) = (r.num 2).1 := by rw [IntKind.wrap_i64]; omega
  have kA : ∀ (U : World) o, ((U).cell? ⟨bb, 0, none⟩ = some (.pointer (some ⟨bp, 0, none⟩)) ∧ (U).cell? ⟨bp, 3, none⟩ = some (.pointer (some ⟨br, 0, none⟩))) → ((U.alloc o).cell? ⟨bb, 0, none⟩ = some (.pointer (some ⟨bp, 0, none⟩)) ∧ (U.alloc o).cell? ⟨bp, 3, none⟩ = some (.pointer (some ⟨br, 0, none⟩))) := fun U o hs => ⟨keepR ((Mod.refl _ U).alloc o) hs.1, keepR ((Mod.refl _ U).alloc o) hs.2⟩
  have kM : ∀ (U V : World), Mod (· = br) U V → ((U).cell? ⟨bb, 0, none⟩ = some (.pointer (some ⟨bp, 0, none⟩)) ∧ (U).cell? ⟨bp, 3, none⟩ = some (.pointer (some ⟨br, 0, none⟩))) → ((V).cell? ⟨bb, 0, none⟩ = some (.pointer (some ⟨bp, 0, none⟩)) ∧ (V).cell? ⟨bp, 3, none⟩ = some (.pointer (some ⟨br, 0, none⟩))) := fun U V hm hs => ⟨Mod.off hm hbb hs.1, Mod.off hm hbp hs.2⟩
  have kN : ∀ (U V : World), Mod (fun _ => False) U V → ((U).cell? ⟨bb, 0, none⟩ = some (.pointer (some ⟨bp, 0, none⟩)) ∧ (U).cell? ⟨bp, 3, none⟩ = some (.pointer (some ⟨br, 0, none⟩))) → ((V).cell? ⟨bb, 0, none⟩ = some (.pointer (some ⟨bp, 0, none⟩)) ∧ (V).cell? ⟨bp, 3, none⟩ = some (.pointer (some ⟨br, 0, none⟩))) := fun U V hm hs => ⟨keepR hm hs.1, keepR hm hs.2⟩
  have kX : ∀ (U V : World) q, Mod (· = q) U V → W.heap.size ≤ q → ((U).cell? ⟨bb, 0, none⟩ = some (.pointer (some ⟨bp, 0, none⟩)) ∧ (U).cell? ⟨bp, 3, none⟩ = some (.pointer (some ⟨br, 0, none⟩))) → ((V).cell? ⟨bb, 0, none⟩ = some (.pointer (some ⟨bp, 0, none⟩)) ∧ (V).cell? ⟨bp, 3, none⟩ = some (.pointer (some ⟨br, 0, none⟩))) := fun U V q hm hq hs => by
    have l1 : bb < W.heap.size := World.block_lt_of_cell? _ _ hS0.1
    have l2 : bp < W.heap.size := World.block_lt_of_cell? _ _ hS0.2
    exact ⟨Mod.off hm (fun e => by omega) hs.1, Mod.off hm (fun e => by omega) hs.2⟩
  have HW1 := Lib.hid hW1
  have HZ := Lib.hid hz
  have M0 := Lib.hid m0
  have HC := Lib.hid (keepR m0 hc)
  clear hV h hr hok hz m0 hW1 hc
  generalize r.num 2 = y at *
  generalize rdStatB r = x2 at *
  obtain ⟨bd, r2⟩ := x2
  simp only at hB hD ⊢
  generalize decS bd = D at *
  obtain ⟨s, de⟩ := D
  unfold St.v at hD
  simp only at hD ⊢
  have hsl : s.cells.length = (#[.int .u16 0, .int .u32 0, .int .u8 0, .int .u32 0, .int .u64 0, .int .u32 0, .int .u32 0, .int .u32 0, .int .u64 0, .string { data := #[] }, .string { data := #[] }, .string { data := #[] }, .string { data := #[] }] : Array Value).size := rfl
  have hsz := st_len s
  go_enter Tryz.func127, Tryz.ntmps127
  go_wp2
  clear hW
  go_cut [2, 3] from 4 to 18 (fun p ev wc => ∃ q, p = .pointer (some ⟨q, 0, none⟩) ∧ ev = .int .i64 de ∧ Hid (wc.heap[q]? = some (.cells s.cells.toArray 31 (0, 0))) ∧ Hid (Mod (· = br) W wc) ∧ W.heap.size ≤ q ∧ Hid (wc.heap[br]? = some (rdO r2)))
  case first =>
    refine wp_onlyN ?_
    go_region_held_law (fun w' => ((w').cell? ⟨bb, 0, none⟩ = some (.pointer (some ⟨bp, 0, none⟩)) ∧ (w').cell? ⟨bp, 3, none⟩ = some (.pointer (some ⟨br, 0, none⟩)))) (repeat (first | with_reducible exact hS0 | with_reducible exact hSW | with_reducible refine kD _ ?_ | with_reducible refine kX _ _ _ hmU hqg ?_ | with_reducible refine kN _ _ m3 ?_ | with_reducible refine kM _ _ m2 ?_ | with_reducible refine kM _ _ m1 ?_ | with_reducible refine kA _ _ ?_)) (first
      | (go_at_call 25; refine (hU _ (by first | exact hrW | exact alloc_keep hrW)).mono ?_; rintro e w1 ⟨rfl, h1, m1⟩)
      | (go_at_call 91; refine (hB _ (by first | exact h1 | exact alloc_keep h1)).mono ?_; rintro e w2 ⟨rfl, h2, m2⟩)
      | (go_at_call 128; refine (hD _).mono ?_; rintro e w3 ⟨rfl, m3⟩; first | ((with_reducible have X := wayA hrW2 m1 m2 m3 h2); obtain ⟨qb, hmq, hqg, hr3⟩ := X; obtain ⟨U', hst, hq', hmU⟩ := st_row (P := Tryz.prog) _ _ _ s.cells _ qb (hsl) (st_one s)) | ((with_reducible have X := wayB hrW2 m1 m2 m3 h2); obtain ⟨qb, hmq, hqg, hr3⟩ := X; obtain ⟨U', hst, hq', hmU⟩ := st_row (P := Tryz.prog) _ _ _ s.cells _ qb (hsl) (st_one s)) | ((with_reducible have X := wayC hrW2 m1 m2 m3 h2); obtain ⟨qb, hmq, hqg, hr3⟩ := X; obtain ⟨U', hst, hq', hmU⟩ := st_row (P := Tryz.prog) _ _ _ s.cells _ qb (hsl) (st_one s)) | ((with_reducible have X := wayD m1 m2 m3 h2); obtain ⟨hmq, hr3⟩ := X; have hqg := hmq.size; obtain ⟨U', hst, hq', hmU⟩ := st_row (P := Tryz.prog) (w3.alloc (.cells #[.int .u16 0, .int .u32 0, .int .u8 0, .int .u32 0, .int .u64 0, .int .u32 0, .int .u32 0, .int .u32 0, .int .u64 0, .string { data := #[] }, .string { data := #[] }, .string { data := #[] }, .string { data := #[] }] 31)) w3.heap.size _ s.cells _ (new_at _ _) (hsl) (st_one s))))
    all_goals refine onlyN_out ?_
    all_goals (have hqb := lt_of hr3)
    all_goals go_wp2
    all_goals go_meet
    all_goals first
      | (case rel => exact ⟨_, rfl, rfl, hq', (hmq.trans' hmU fun j hj e => by omega), hqg, (hmU.block br hqb (fun e => by omega)).trans hr3⟩)
      | (case rel => exact ⟨_, rfl, rfl, hq', ((hmq.alloc _).trans' hmU fun j hj e => by omega), hqg, (hmU.block br (lt_of (alloc_keep hr3)) (fun e => by omega)).trans (alloc_keep hr3)⟩)
  case rest =>
    obtain ⟨q, rfl, rfl, HQ, HMq, hqg, HR⟩ := hcut
    have hPc := HW1.out.mod HMq.out (fun k hk x => hF k x hk)
    obtain ⟨_, _, _, _, c5, f5⟩ := hPc.cells
    have hb := Mod.off HMq.out hbb HC.out
    have hrb : w.heap.size < q := by have := lt_of HZ.out; omega
    have hzc := (HMq.out.block w.heap.size (lt_of HZ.out) (fun e => by omega)).trans HZ.out
    have hbpl : bp < w.heap.size := hFl.out bp (HW1.out.fb)
    have HP := Lib.hid hPc
    have HZ2 := Lib.hid hzc
    clear hU hB hD kA kM kN kX kD hS0 hSW hrW c3 hPc hzc
    by_cases hd : de = 0
    · have td : (de != 0) = false := by simp [hd]
      have HV : Hid ((wg || decide (de ≠ 0)) = wg) := by show _ = _; simp [hd]
      clear hd
      cases wg
      · go_wp2
        refine wp_region_then2 (k := 11) _ _ rfl rfl rfl (by kernel_rfl) (by kernel_rfl) (by kernel_rfl) ?_
        simp only [List.take_succ_cons, List.take_zero]
        repeat (go_big_quiet_step (fail))
        refine wpQuiet_nil ?_
        intro _ hw'
        obtain ⟨nq, hw''⟩ := hw'
        subst hw''
        intro K hK
        go_simp
        refine hK _ _ ?_
        clear hK K
        obtain ⟨W5, hW5⟩ : ∃ W5, (wc.drewN nq).setCell ⟨bp, 5, none⟩ (.bool false) = W5 := ⟨_, rfl⟩
        rw [hW5]
        obtain ⟨hp5, hm5⟩ : PenAt W5 F bp 1 out br lg false ∧ Mod F (wc.drewN nq) W5 := by rw [← hW5]; exact (HP.out.mod ((Mod.refl (fun _ => False) wc).drewN nq) (fun _ x => x.elim)).setWrong false
        have hm5' : Mod F wc W5 := ((Mod.refl F wc).drewN nq).trans hm5
        have hq5 : W5.heap[q]? = some (.cells s.cells.toArray 31 (0, 0)) := (hm5'.block q (lt_of HQ.out) (fun x => by have := hFl.out q x; omega)).trans HQ.out
        have hz5 : W5.heap[w.heap.size]? = some (.cells #[.int .u16 0, .int .u32 0, .int .u8 0, .int .u32 0, .int .u64 0, .int .u32 0, .int .u32 0, .int .u32 0, .int .u64 0, .string { data := #[] }, .string { data := #[] }, .string { data := #[] }, .string { data := #[] }] 31 (0, 0)) := (hm5'.block _ (lt_of HZ2.out) (fun x => by have := hFl.out _ x; omega)).trans HZ2.out
        have hr5 : W5.heap[br]? = some (rdO r2) := (hm5'.block br (lt_of HR.out) (fun x => hF br x rfl)).trans HR.out
        have hld := ld_row (P := Tryz.prog) (n := 13) hq5 hsz
        obtain ⟨W6, hst, hz6, hm6⟩ := st_row (P := Tryz.prog) W5 w.heap.size _ s.cells _ hz5 hsl (st_one s)
        have hC6 : ((W6).cell? ⟨w.heap.size, 0, none⟩ = some (.int .u16 s.ty) ∧ (W6).cell? ⟨w.heap.size, 1, none⟩ = some (.int .u32 s.dev) ∧ (W6).cell? ⟨w.heap.size, 2, none⟩ = some (.int .u8 s.qt) ∧ (W6).cell? ⟨w.heap.size, 3, none⟩ = some (.int .u32 s.qv) ∧ (W6).cell? ⟨w.heap.size, 4, none⟩ = some (.int .u64 s.qp) ∧ (W6).cell? ⟨w.heap.size, 5, none⟩ = some (.int .u32 s.mo) ∧ (W6).cell? ⟨w.heap.size, 6, none⟩ = some (.int .u32 s.at_) ∧ (W6).cell? ⟨w.heap.size, 7, none⟩ = some (.int .u32 s.mt) ∧ (W6).cell? ⟨w.heap.size, 8, none⟩ = some (.int .u64 s.len) ∧ (W6).cell? ⟨w.heap.size, 9, none⟩ = some (.string s.n) ∧ (W6).cell? ⟨w.heap.size, 10, none⟩ = some (.string s.u) ∧ (W6).cell? ⟨w.heap.size, 11, none⟩ = some (.string s.g) ∧ (W6).cell? ⟨w.heap.size, 12, none⟩ = some (.string s.m)) := ⟨(cell_of (w := W6) hz6 0).trans rfl, (cell_of (w := W6) hz6 1).trans rfl, (cell_of (w := W6) hz6 2).trans rfl, (cell_of (w := W6) hz6 3).trans rfl, (cell_of (w := W6) hz6 4).trans rfl, (cell_of (w := W6) hz6 5).trans rfl, (cell_of (w := W6) hz6 6).trans rfl, (cell_of (w := W6) hz6 7).trans rfl, (cell_of (w := W6) hz6 8).trans rfl, (cell_of (w := W6) hz6 9).trans rfl, (cell_of (w := W6) hz6 10).trans rfl, (cell_of (w := W6) hz6 11).trans rfl, (cell_of (w := W6) hz6 12).trans rfl⟩
        have HP6 := Lib.hid (hp5.mod hm6 (fun k hk x => by have := hFl.out k x; omega))
        have HR6 := Lib.hid ((hm6.block br (lt_of hr5) (fun e => by omega)).trans hr5)
        have HM6 : Hid (Mod (fun k => k = br ∨ F k) w W6) := (((M0.out.mono fun _ _ x => x.elim).trans (HMq.out.mono fun _ _ e => Or.inl e)).trans (hm5'.mono fun _ _ x => Or.inr x)).trans' hm6 fun k hk e => by omega
        have hrg : W5.rangeAt q 0 s.cells := fun j v hv => by rw [Nat.zero_add, cell_of hq5, List.getElem?_toArray]; exact hv
        clear hp5 hm5 hm5' hq5 hz5 hr5 hm6 hz6 hW5 hld
        go_wp2_with (refine wpList_load_mid rfl 31 (.tmp 2) rfl q 0 rfl s.cells _ hrg Tryz.underlying31 rfl (by kernel_rfl) ?_)
        go_wp2
        refine bodyPost_ret (v := .agg s.cells.toArray) ?_ rfl ⟨rfl, HR6.out, by rw [HV.out]; exact HP6.out, HM6.out⟩
        obtain ⟨z0, z1, z2, z3, z4, z5, z6, z7, z8, z9, z10, z11, z12⟩ := hC6
        simp [results, Tryz.f127, go_sem, z0, z1, z2, z3, z4, z5, z6, z7, z8, z9, z10, z11, z12] <;> rfl
      · go_wp2
        refine wp_region_then2 (k := 11) _ _ rfl rfl rfl (by kernel_rfl) (by kernel_rfl) (by kernel_rfl) ?_
        simp only [List.take_succ_cons, List.take_zero]
        repeat (go_big_quiet_step (fail))
        refine wpQuiet_nil ?_
        intro _ hw'
        obtain ⟨nq, hw''⟩ := hw'
        subst hw''
        intro K hK
        go_simp
        refine hK _ _ ?_
        clear hK K
        obtain ⟨W5, hW5⟩ : ∃ W5, (wc.drewN nq).setCell ⟨bp, 5, none⟩ (.bool true) = W5 := ⟨_, rfl⟩
        rw [hW5]
        obtain ⟨hp5, hm5⟩ : PenAt W5 F bp 1 out br lg true ∧ Mod F (wc.drewN nq) W5 := by rw [← hW5]; exact (HP.out.mod ((Mod.refl (fun _ => False) wc).drewN nq) (fun _ x => x.elim)).setWrong true
        have hm5' : Mod F wc W5 := ((Mod.refl F wc).drewN nq).trans hm5
        have hq5 : W5.heap[q]? = some (.cells s.cells.toArray 31 (0, 0)) := (hm5'.block q (lt_of HQ.out) (fun x => by have := hFl.out q x; omega)).trans HQ.out
        have hz5 : W5.heap[w.heap.size]? = some (.cells #[.int .u16 0, .int .u32 0, .int .u8 0, .int .u32 0, .int .u64 0, .int .u32 0, .int .u32 0, .int .u32 0, .int .u64 0, .string { data := #[] }, .string { data := #[] }, .string { data := #[] }, .string { data := #[] }] 31 (0, 0)) := (hm5'.block _ (lt_of HZ2.out) (fun x => by have := hFl.out _ x; omega)).trans HZ2.out
        have hr5 : W5.heap[br]? = some (rdO r2) := (hm5'.block br (lt_of HR.out) (fun x => hF br x rfl)).trans HR.out
        have hld := ld_row (P := Tryz.prog) (n := 13) hq5 hsz
        obtain ⟨W6, hst, hz6, hm6⟩ := st_row (P := Tryz.prog) W5 w.heap.size _ s.cells _ hz5 hsl (st_one s)
        have hC6 : ((W6).cell? ⟨w.heap.size, 0, none⟩ = some (.int .u16 s.ty) ∧ (W6).cell? ⟨w.heap.size, 1, none⟩ = some (.int .u32 s.dev) ∧ (W6).cell? ⟨w.heap.size, 2, none⟩ = some (.int .u8 s.qt) ∧ (W6).cell? ⟨w.heap.size, 3, none⟩ = some (.int .u32 s.qv) ∧ (W6).cell? ⟨w.heap.size, 4, none⟩ = some (.int .u64 s.qp) ∧ (W6).cell? ⟨w.heap.size, 5, none⟩ = some (.int .u32 s.mo) ∧ (W6).cell? ⟨w.heap.size, 6, none⟩ = some (.int .u32 s.at_) ∧ (W6).cell? ⟨w.heap.size, 7, none⟩ = some (.int .u32 s.mt) ∧ (W6).cell? ⟨w.heap.size, 8, none⟩ = some (.int .u64 s.len) ∧ (W6).cell? ⟨w.heap.size, 9, none⟩ = some (.string s.n) ∧ (W6).cell? ⟨w.heap.size, 10, none⟩ = some (.string s.u) ∧ (W6).cell? ⟨w.heap.size, 11, none⟩ = some (.string s.g) ∧ (W6).cell? ⟨w.heap.size, 12, none⟩ = some (.string s.m)) := ⟨(cell_of (w := W6) hz6 0).trans rfl, (cell_of (w := W6) hz6 1).trans rfl, (cell_of (w := W6) hz6 2).trans rfl, (cell_of (w := W6) hz6 3).trans rfl, (cell_of (w := W6) hz6 4).trans rfl, (cell_of (w := W6) hz6 5).trans rfl, (cell_of (w := W6) hz6 6).trans rfl, (cell_of (w := W6) hz6 7).trans rfl, (cell_of (w := W6) hz6 8).trans rfl, (cell_of (w := W6) hz6 9).trans rfl, (cell_of (w := W6) hz6 10).trans rfl, (cell_of (w := W6) hz6 11).trans rfl, (cell_of (w := W6) hz6 12).trans rfl⟩
        have HP6 := Lib.hid (hp5.mod hm6 (fun k hk x => by have := hFl.out k x; omega))
        have HR6 := Lib.hid ((hm6.block br (lt_of hr5) (fun e => by omega)).trans hr5)
        have HM6 : Hid (Mod (fun k => k = br ∨ F k) w W6) := (((M0.out.mono fun _ _ x => x.elim).trans (HMq.out.mono fun _ _ e => Or.inl e)).trans (hm5'.mono fun _ _ x => Or.inr x)).trans' hm6 fun k hk e => by omega
        have hrg : W5.rangeAt q 0 s.cells := fun j v hv => by rw [Nat.zero_add, cell_of hq5, List.getElem?_toArray]; exact hv
        clear hp5 hm5 hm5' hq5 hz5 hr5 hm6 hz6 hW5 hld
        go_wp2_with (refine wpList_load_mid rfl 31 (.tmp 2) rfl q 0 rfl s.cells _ hrg Tryz.underlying31 rfl (by kernel_rfl) ?_)
        go_wp2
        refine bodyPost_ret (v := .agg s.cells.toArray) ?_ rfl ⟨rfl, HR6.out, by rw [HV.out]; exact HP6.out, HM6.out⟩
        obtain ⟨z0, z1, z2, z3, z4, z5, z6, z7, z8, z9, z10, z11, z12⟩ := hC6
        simp [results, Tryz.f127, go_sem, z0, z1, z2, z3, z4, z5, z6, z7, z8, z9, z10, z11, z12] <;> rfl
    · have td : (de != 0) = true := by simp [hd]
      have HV : Hid ((wg || decide (de ≠ 0)) = true) := by show _ = _; simp [hd]
      clear hd
      cases wg
      · go_wp2
        refine wp_region_then2 (k := 11) _ _ rfl rfl rfl (by kernel_rfl) (by kernel_rfl) (by kernel_rfl) ?_
        simp only [List.take_succ_cons, List.take_zero]
        repeat (go_big_quiet_step (fail))
        refine wpQuiet_nil ?_
        intro _ hw'
        obtain ⟨nq, hw''⟩ := hw'
        subst hw''
        intro K hK
        go_simp
        refine hK _ _ ?_
        clear hK K
        obtain ⟨W5, hW5⟩ : ∃ W5, (wc.drewN nq).setCell ⟨bp, 5, none⟩ (.bool true) = W5 := ⟨_, rfl⟩
        rw [hW5]
        obtain ⟨hp5, hm5⟩ : PenAt W5 F bp 1 out br lg true ∧ Mod F (wc.drewN nq) W5 := by rw [← hW5]; exact (HP.out.mod ((Mod.refl (fun _ => False) wc).drewN nq) (fun _ x => x.elim)).setWrong true
        have hm5' : Mod F wc W5 := ((Mod.refl F wc).drewN nq).trans hm5
        have hq5 : W5.heap[q]? = some (.cells s.cells.toArray 31 (0, 0)) := (hm5'.block q (lt_of HQ.out) (fun x => by have := hFl.out q x; omega)).trans HQ.out
        have hz5 : W5.heap[w.heap.size]? = some (.cells #[.int .u16 0, .int .u32 0, .int .u8 0, .int .u32 0, .int .u64 0, .int .u32 0, .int .u32 0, .int .u32 0, .int .u64 0, .string { data := #[] }, .string { data := #[] }, .string { data := #[] }, .string { data := #[] }] 31 (0, 0)) := (hm5'.block _ (lt_of HZ2.out) (fun x => by have := hFl.out _ x; omega)).trans HZ2.out
        have hr5 : W5.heap[br]? = some (rdO r2) := (hm5'.block br (lt_of HR.out) (fun x => hF br x rfl)).trans HR.out
        have hld := ld_row (P := Tryz.prog) (n := 13) hq5 hsz
        obtain ⟨W6, hst, hz6, hm6⟩ := st_row (P := Tryz.prog) W5 w.heap.size _ s.cells _ hz5 hsl (st_one s)
        have hC6 : ((W6).cell? ⟨w.heap.size, 0, none⟩ = some (.int .u16 s.ty) ∧ (W6).cell? ⟨w.heap.size, 1, none⟩ = some (.int .u32 s.dev) ∧ (W6).cell? ⟨w.heap.size, 2, none⟩ = some (.int .u8 s.qt) ∧ (W6).cell? ⟨w.heap.size, 3, none⟩ = some (.int .u32 s.qv) ∧ (W6).cell? ⟨w.heap.size, 4, none⟩ = some (.int .u64 s.qp) ∧ (W6).cell? ⟨w.heap.size, 5, none⟩ = some (.int .u32 s.mo) ∧ (W6).cell? ⟨w.heap.size, 6, none⟩ = some (.int .u32 s.at_) ∧ (W6).cell? ⟨w.heap.size, 7, none⟩ = some (.int .u32 s.mt) ∧ (W6).cell? ⟨w.heap.size, 8, none⟩ = some (.int .u64 s.len) ∧ (W6).cell? ⟨w.heap.size, 9, none⟩ = some (.string s.n) ∧ (W6).cell? ⟨w.heap.size, 10, none⟩ = some (.string s.u) ∧ (W6).cell? ⟨w.heap.size, 11, none⟩ = some (.string s.g) ∧ (W6).cell? ⟨w.heap.size, 12, none⟩ = some (.string s.m)) := ⟨(cell_of (w := W6) hz6 0).trans rfl, (cell_of (w := W6) hz6 1).trans rfl, (cell_of (w := W6) hz6 2).trans rfl, (cell_of (w := W6) hz6 3).trans rfl, (cell_of (w := W6) hz6 4).trans rfl, (cell_of (w := W6) hz6 5).trans rfl, (cell_of (w := W6) hz6 6).trans rfl, (cell_of (w := W6) hz6 7).trans rfl, (cell_of (w := W6) hz6 8).trans rfl, (cell_of (w := W6) hz6 9).trans rfl, (cell_of (w := W6) hz6 10).trans rfl, (cell_of (w := W6) hz6 11).trans rfl, (cell_of (w := W6) hz6 12).trans rfl⟩
        have HP6 := Lib.hid (hp5.mod hm6 (fun k hk x => by have := hFl.out k x; omega))
        have HR6 := Lib.hid ((hm6.block br (lt_of hr5) (fun e => by omega)).trans hr5)
        have HM6 : Hid (Mod (fun k => k = br ∨ F k) w W6) := (((M0.out.mono fun _ _ x => x.elim).trans (HMq.out.mono fun _ _ e => Or.inl e)).trans (hm5'.mono fun _ _ x => Or.inr x)).trans' hm6 fun k hk e => by omega
        have hrg : W5.rangeAt q 0 s.cells := fun j v hv => by rw [Nat.zero_add, cell_of hq5, List.getElem?_toArray]; exact hv
        clear hp5 hm5 hm5' hq5 hz5 hr5 hm6 hz6 hW5 hld
        go_wp2_with (refine wpList_load_mid rfl 31 (.tmp 2) rfl q 0 rfl s.cells _ hrg Tryz.underlying31 rfl (by kernel_rfl) ?_)
        go_wp2
        refine bodyPost_ret (v := .agg s.cells.toArray) ?_ rfl ⟨rfl, HR6.out, by rw [HV.out]; exact HP6.out, HM6.out⟩
        obtain ⟨z0, z1, z2, z3, z4, z5, z6, z7, z8, z9, z10, z11, z12⟩ := hC6
        simp [results, Tryz.f127, go_sem, z0, z1, z2, z3, z4, z5, z6, z7, z8, z9, z10, z11, z12] <;> rfl
      · go_wp2
        refine wp_region_then2 (k := 11) _ _ rfl rfl rfl (by kernel_rfl) (by kernel_rfl) (by kernel_rfl) ?_
        simp only [List.take_succ_cons, List.take_zero]
        repeat (go_big_quiet_step (fail))
        refine wpQuiet_nil ?_
        intro _ hw'
        obtain ⟨nq, hw''⟩ := hw'
        subst hw''
        intro K hK
        go_simp
        refine hK _ _ ?_
        clear hK K
        obtain ⟨W5, hW5⟩ : ∃ W5, (wc.drewN nq).setCell ⟨bp, 5, none⟩ (.bool true) = W5 := ⟨_, rfl⟩
        rw [hW5]
        obtain ⟨hp5, hm5⟩ : PenAt W5 F bp 1 out br lg true ∧ Mod F (wc.drewN nq) W5 := by rw [← hW5]; exact (HP.out.mod ((Mod.refl (fun _ => False) wc).drewN nq) (fun _ x => x.elim)).setWrong true
        have hm5' : Mod F wc W5 := ((Mod.refl F wc).drewN nq).trans hm5
        have hq5 : W5.heap[q]? = some (.cells s.cells.toArray 31 (0, 0)) := (hm5'.block q (lt_of HQ.out) (fun x => by have := hFl.out q x; omega)).trans HQ.out
        have hz5 : W5.heap[w.heap.size]? = some (.cells #[.int .u16 0, .int .u32 0, .int .u8 0, .int .u32 0, .int .u64 0, .int .u32 0, .int .u32 0, .int .u32 0, .int .u64 0, .string { data := #[] }, .string { data := #[] }, .string { data := #[] }, .string { data := #[] }] 31 (0, 0)) := (hm5'.block _ (lt_of HZ2.out) (fun x => by have := hFl.out _ x; omega)).trans HZ2.out
        have hr5 : W5.heap[br]? = some (rdO r2) := (hm5'.block br (lt_of HR.out) (fun x => hF br x rfl)).trans HR.out
        have hld := ld_row (P := Tryz.prog) (n := 13) hq5 hsz
        obtain ⟨W6, hst, hz6, hm6⟩ := st_row (P := Tryz.prog) W5 w.heap.size _ s.cells _ hz5 hsl (st_one s)
        have hC6 : ((W6).cell? ⟨w.heap.size, 0, none⟩ = some (.int .u16 s.ty) ∧ (W6).cell? ⟨w.heap.size, 1, none⟩ = some (.int .u32 s.dev) ∧ (W6).cell? ⟨w.heap.size, 2, none⟩ = some (.int .u8 s.qt) ∧ (W6).cell? ⟨w.heap.size, 3, none⟩ = some (.int .u32 s.qv) ∧ (W6).cell? ⟨w.heap.size, 4, none⟩ = some (.int .u64 s.qp) ∧ (W6).cell? ⟨w.heap.size, 5, none⟩ = some (.int .u32 s.mo) ∧ (W6).cell? ⟨w.heap.size, 6, none⟩ = some (.int .u32 s.at_) ∧ (W6).cell? ⟨w.heap.size, 7, none⟩ = some (.int .u32 s.mt) ∧ (W6).cell? ⟨w.heap.size, 8, none⟩ = some (.int .u64 s.len) ∧ (W6).cell? ⟨w.heap.size, 9, none⟩ = some (.string s.n) ∧ (W6).cell? ⟨w.heap.size, 10, none⟩ = some (.string s.u) ∧ (W6).cell? ⟨w.heap.size, 11, none⟩ = some (.string s.g) ∧ (W6).cell? ⟨w.heap.size, 12, none⟩ = some (.string s.m)) := ⟨(cell_of (w := W6) hz6 0).trans rfl, (cell_of (w := W6) hz6 1).trans rfl, (cell_of (w := W6) hz6 2).trans rfl, (cell_of (w := W6) hz6 3).trans rfl, (cell_of (w := W6) hz6 4).trans rfl, (cell_of (w := W6) hz6 5).trans rfl, (cell_of (w := W6) hz6 6).trans rfl, (cell_of (w := W6) hz6 7).trans rfl, (cell_of (w := W6) hz6 8).trans rfl, (cell_of (w := W6) hz6 9).trans rfl, (cell_of (w := W6) hz6 10).trans rfl, (cell_of (w := W6) hz6 11).trans rfl, (cell_of (w := W6) hz6 12).trans rfl⟩
        have HP6 := Lib.hid (hp5.mod hm6 (fun k hk x => by have := hFl.out k x; omega))
        have HR6 := Lib.hid ((hm6.block br (lt_of hr5) (fun e => by omega)).trans hr5)
        have HM6 : Hid (Mod (fun k => k = br ∨ F k) w W6) := (((M0.out.mono fun _ _ x => x.elim).trans (HMq.out.mono fun _ _ e => Or.inl e)).trans (hm5'.mono fun _ _ x => Or.inr x)).trans' hm6 fun k hk e => by omega
        have hrg : W5.rangeAt q 0 s.cells := fun j v hv => by rw [Nat.zero_add, cell_of hq5, List.getElem?_toArray]; exact hv
        clear hp5 hm5 hm5' hq5 hz5 hr5 hm6 hz6 hW5 hld
        go_wp2_with (refine wpList_load_mid rfl 31 (.tmp 2) rfl q 0 rfl s.cells _ hrg Tryz.underlying31 rfl (by kernel_rfl) ?_)
        go_wp2
        refine bodyPost_ret (v := .agg s.cells.toArray) ?_ rfl ⟨rfl, HR6.out, by rw [HV.out]; exact HP6.out, HM6.out⟩
        obtain ⟨z0, z1, z2, z3, z4, z5, z6, z7, z8, z9, z10, z11, z12⟩ := hC6
        simp [results, Tryz.f127, go_sem, z0, z1, z2, z3, z4, z5, z6, z7, z8, z9, z10, z11, z12] <;> rfl
end Go.Proofs.YtklpopmjpgdjnaaGreatDoor
