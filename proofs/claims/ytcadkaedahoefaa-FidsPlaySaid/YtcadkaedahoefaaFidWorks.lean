/- The statements' small known run. -/
import Derived.Test.YtcadkaedahoefaaFidNil
namespace Go.Proofs.Ytcadkaedahoefaa
open Go.RowKit

set_option maxHeartbeats 1000000 in
theorem eqF_self (q : Fd) (w : World) : (Op.equalIn 10000 59 (.agg #[.int .u64 q.path, .string q.who, .bool q.opn, .int .u8 q.mode, .int .u64 q.next]) (.agg #[.int .u64 q.path, .string q.who, .bool q.opn, .int .u8 q.mode, .int .u64 q.next])).run Try.prog w = .ok true w := by
  have ht : Try.prog.underlying 59 = some (.struct (Try.prog.fieldsOf 59)) := by kernel_rfl
  have hp : Try.prog.stoodInHeld 59 = false := by kernel_rfl
  rw [show (10000 : Nat) = 9999 + 1 from rfl, run_equalIn_agg w 9999 _ _ _ ht hp]
  simp [go_sem, Op.eqFields]
theorem eqF (q : Fd) (w : World) : (binOp .eql 59 (.agg #[.int .u64 q.path, .string q.who, .bool q.opn, .int .u8 q.mode, .int .u64 q.next]) (.agg #[.int .u64 q.path, .string q.who, .bool q.opn, .int .u8 q.mode, .int .u64 q.next])).run Try.prog w = .ok (.bool true) w := by
  rw [run_eql_struct, eqF_self q w]; rfl
theorem neF (q : Fd) (w : World) : (binOp .neq 59 (.agg #[.int .u64 q.path, .string q.who, .bool q.opn, .int .u8 q.mode, .int .u64 q.next]) (.agg #[.int .u64 q.path, .string q.who, .bool q.opn, .int .u8 q.mode, .int .u64 q.next])).run Try.prog w = .ok (.bool false) w := by
  rw [run_neq_struct, eqF_self q w]; rfl
theorem setCell_idn {w : World} {b i : Nat} {cs : Array Value} {e : TypeId} {v : Value} (h : w.heap[b]? = some (.cells cs e (0, 0))) (hv : cs[i]? = some v) : w.setCell ⟨b, i, none⟩ v = w := by
  have hi : i < cs.size := (Array.getElem?_eq_some_iff.1 hv).1
  have hcs : cs.setIfInBounds i v = cs := by
    obtain ⟨_, h2⟩ := Array.getElem?_eq_some_iff.1 hv
    rw [Array.setIfInBounds, dif_pos hi, ← h2, Array.set_getElem_self]
  have hh : (w.setCell ⟨b, i, none⟩ v).heap = w.heap := by
    apply Array.ext_getElem?
    intro j
    by_cases hj : j = b
    · subst hj
      rw [heap_set h i v, hcs, h]
    · rw [Below.heap_setCell _ _ _ _ hj]
  show { w with heap := (w.setCell ⟨b, i, none⟩ v).heap } = w
  rw [hh]
def fW : Fd := ⟨3, ⟨#[97, 110, 110]⟩, false, 0, 0⟩
def lW : HL := [(5, fW)]
theorem lW_r : Rising lW := List.pairwise_singleton _ _
theorem add1 : addS [] 1 5 fW = (lW, 0) := rfl
theorem add2 : addS lW 1 5 fW = (lW, 184) := rfl
theorem add3 : addS lW 1 6 fW = (lW, 6) := rfl
theorem get1 : getS lW 5 = (fW, 0) := rfl
theorem on1 : onS lW 3 = 1 := rfl
theorem beg1 : beginS ⟨[], [], 2⟩ 1 = (⟨[1], [], 2⟩, 0) := by rfl
theorem beg2 : beginS ⟨[1], [], 2⟩ 2 = (⟨[1, 2], [], 2⟩, 0) := by rfl
theorem flu1 : flushS ⟨[1, 2], [], 2⟩ 2 1 = (⟨[1, 2], [(2, 1)], 2⟩, true, 0) := by rfl
theorem end1 : endS ⟨[1, 2], [(2, 1)], 2⟩ 1 = (⟨[2], [], 2⟩, [2], 0) := by rfl
theorem step3 {U : World} {F F' : Nat → Prop} {bg c : Nat} (h : ∀ k, F k → k = bg ∨ c < k) (g : Grows U F F') (hs : c < U.heap.size) : ∀ k, F' k → k = bg ∨ c < k := fun k hk => by
  rcases g k hk with h1 | h1
  · exact h k h1
  · exact Or.inr (by omega)
set_option maxHeartbeats 4000000 in
set_option maxRecDepth 100000 in
theorem works_any (w : World) : Calls Try.prog 7 #[] w fun e w' => e = .returned (.bool true) ∧ Mod (fun _ => False) w w' := by
  have hN := fun U => newtab_any 1 U
  have hT := fun U => newtags_any 2 U
  have hA1 : ∀ F b U, TabAt U F b 0 [] 1 → Calls Try.prog 18 #[.pointer (some ⟨b, 0, none⟩), .int .u32 5, .agg #[.int .u64 3, .string { data := #[97, 110, 110] }, .bool false, .int .u8 0, .int .u64 0]] U fun e w' => e = .returned (.int .i64 0) ∧ TabAt w' F b 1 lW 1 ∧ Mod F U w' := fun F b U h => add_any U F b 0 5 fW [] 1 h (by decide) (by decide)
  have hA2 : ∀ F b U, TabAt U F b 1 lW 1 → Calls Try.prog 18 #[.pointer (some ⟨b, 0, none⟩), .int .u32 5, .agg #[.int .u64 3, .string { data := #[97, 110, 110] }, .bool false, .int .u8 0, .int .u64 0]] U fun e w' => e = .returned (.int .i64 184) ∧ TabAt w' F b 2 lW 1 ∧ Mod F U w' := fun F b U h => add_any U F b 1 5 fW lW 1 h (by decide) (by decide)
  have hA3 : ∀ F b U, TabAt U F b 2 lW 1 → Calls Try.prog 18 #[.pointer (some ⟨b, 0, none⟩), .int .u32 6, .agg #[.int .u64 3, .string { data := #[97, 110, 110] }, .bool false, .int .u8 0, .int .u64 0]] U fun e w' => e = .returned (.int .i64 6) ∧ TabAt w' F b 3 lW 1 ∧ Mod F U w' := fun F b U h => add_any U F b 2 6 fW lW 1 h (by decide) (by decide)
  have hG : ∀ F b U, TabAt U F b 3 lW 1 → Calls Try.prog 20 #[.pointer (some ⟨b, 0, none⟩), .int .u32 5] U fun e w' => e = .returned (.tuple #[.agg #[.int .u64 3, .string { data := #[97, 110, 110] }, .bool false, .int .u8 0, .int .u64 0], .int .i64 0]) ∧ Mod (fun _ => False) U w' := fun F b U h => get_any U F b 3 5 lW 1 h (by decide)
  have hO : ∀ F b U, TabAt U F b 3 lW 1 → Calls Try.prog 28 #[.pointer (some ⟨b, 0, none⟩), .int .u64 3] U fun e w' => e = .returned (.int .i64 1) ∧ Mod (fun _ => False) U w' := fun F b U h => on_any U F b 3 3 lW 1 h (by decide) (fun h => by cases h)
  have hB1 : ∀ F b U, TagsAt 74 U F b ⟨[], [], 2⟩ → Calls Try.prog 9 #[.pointer (some ⟨b, 0, none⟩), .int .u16 1] U fun e w' => e = .returned (.int .i64 0) ∧ ∃ F', TagsAt 74 w' F' b ⟨[1], [], 2⟩ ∧ Mod F U w' ∧ Grows U F F' := fun F b U h => begin_any U F b 1 ⟨[], [], 2⟩ h (by decide)
  have hB2 : ∀ F b U, TagsAt 74 U F b ⟨[1], [], 2⟩ → Calls Try.prog 9 #[.pointer (some ⟨b, 0, none⟩), .int .u16 2] U fun e w' => e = .returned (.int .i64 0) ∧ ∃ F', TagsAt 74 w' F' b ⟨[1, 2], [], 2⟩ ∧ Mod F U w' ∧ Grows U F F' := fun F b U h => begin_any U F b 2 ⟨[1], [], 2⟩ h (by decide)
  have hF : ∀ F b U, TagsAt 74 U F b ⟨[1, 2], [], 2⟩ → Calls Try.prog 10 #[.pointer (some ⟨b, 0, none⟩), .int .u16 2, .int .u16 1] U fun e w' => e = .returned (.tuple #[.bool true, .int .i64 0]) ∧ ∃ F', TagsAt 74 w' F' b ⟨[1, 2], [(2, 1)], 2⟩ ∧ Mod F U w' ∧ Grows U F F' := fun F b U h => flush_any U F b 2 1 ⟨[1, 2], [], 2⟩ h (by decide) (by decide)
  have hE : ∀ F b U, TagsAt 74 U F b ⟨[1, 2], [(2, 1)], 2⟩ → Calls Try.prog 11 #[.pointer (some ⟨b, 0, none⟩), .int .u16 1] U fun e w' => ∃ v, e = .returned (.tuple #[v, .int .i64 0]) ∧ SlAt w' (U.heap.size ≤ ·) v [.int .u16 2] ∧ ∃ F', TagsAt 74 w' F' b ⟨[2], [], 2⟩ ∧ Mod F U w' ∧ Grows U F F' := fun F b U h => end_any U F b 1 ⟨[1, 2], [(2, 1)], 2⟩ h (by decide) (by decide)
  have hq : ∀ U, (binOp .eql 59 (.agg #[.int .u64 3, .string { data := #[97, 110, 110] }, .bool false, .int .u8 0, .int .u64 0]) (.agg #[.int .u64 3, .string { data := #[97, 110, 110] }, .bool false, .int .u8 0, .int .u64 0])).run Try.prog U = .ok (.bool true) U := eqF fW
  go_enter Try.func7, Try.ntmps7
  go_wp2_with fail
  refine (hN _).mono ?_
  rintro e w1 ⟨_, h1⟩
  obtain ⟨bt, rfl, hTab, m1⟩ := h1 rfl
  go_wp2_with fail
  refine (hT _).mono ?_
  rintro e w2 ⟨_, h2⟩
  obtain ⟨rfl, hw2⟩ := h2 rfl
  clear hN hT h1 h2
  have hTg : TagsAt 74 w2 (· = w1.heap.size) w1.heap.size ⟨[], [], 2⟩ := by rw [hw2]; exact ⟨_, _, TagsP.made w1 2⟩
  have m2 : Mod (fun _ => False) w1 w2 := by rw [hw2]; exact (Mod.refl _ _).alloc _
  have hs2 : w1.heap.size < w2.heap.size := hTg.lt _ rfl
  obtain ⟨Ft, hFt⟩ : ∃ Ft : Nat → Prop, (fun k => w.heap.size ≤ k ∧ k < w1.heap.size) = Ft := ⟨_, rfl⟩
  have hFl : ∀ k, Ft k → w.heap.size ≤ k ∧ k < w1.heap.size := fun k hk => by rw [← hFt] at hk; exact hk
  rw [hFt] at hTab
  obtain ⟨bg, hbg⟩ : ∃ bg, w1.heap.size = bg := ⟨_, rfl⟩
  have hTab2 := hTab.mod m2 (fun _ x => x.elim)
  have hM2 := Lib.hid (m1.trans m2)
  rw [hbg] at hTg hs2 hFl ⊢
  have hbl : w.heap.size ≤ bg := by rw [← hbg]; exact m1.size
  obtain ⟨w3, hw3⟩ : ∃ w3, w2.alloc (.cells #[.int .u64 3, .string { data := #[97, 110, 110] }, .bool false, .int .u8 0, .int .u64 0] 59) = w3 := ⟨_, rfl⟩
  have hB : w3.heap[w2.heap.size]? = some (.cells #[.int .u64 3, .string { data := #[97, 110, 110] }, .bool false, .int .u8 0, .int .u64 0] 59 (0, 0)) := by subst hw3; exact new_at _ _
  have m3 : Mod (fun _ => False) w2 w3 := by subst hw3; exact (Mod.refl _ _).alloc _
  obtain ⟨bx, hbx⟩ : ∃ bx, w2.heap.size = bx := ⟨_, rfl⟩
  rw [hbx] at hB hs2
  have hSk : ∀ (U V : World), ((U).cell? ⟨bx, 0, none⟩ = some (.int .u64 3) ∧ (U).cell? ⟨bx, 1, none⟩ = some (.string { data := #[97, 110, 110] }) ∧ (U).cell? ⟨bx, 2, none⟩ = some (.bool false) ∧ (U).cell? ⟨bx, 3, none⟩ = some (.int .u8 0) ∧ (U).cell? ⟨bx, 4, none⟩ = some (.int .u64 0)) → Mod Ft U V → ((V).cell? ⟨bx, 0, none⟩ = some (.int .u64 3) ∧ (V).cell? ⟨bx, 1, none⟩ = some (.string { data := #[97, 110, 110] }) ∧ (V).cell? ⟨bx, 2, none⟩ = some (.bool false) ∧ (V).cell? ⟨bx, 3, none⟩ = some (.int .u8 0) ∧ (V).cell? ⟨bx, 4, none⟩ = some (.int .u64 0)) := by
    rintro U V ⟨h0, h1, h2, h3, h4⟩ hm
    have hn : ¬ Ft bx := fun h => by have := (hFl bx h).2; omega
    have hb := hm.block bx (lt_of_cell h0) hn
    exact ⟨(World.cell?_of_block (a := ⟨bx, 0, none⟩) hb).trans h0, (World.cell?_of_block (a := ⟨bx, 1, none⟩) hb).trans h1, (World.cell?_of_block (a := ⟨bx, 2, none⟩) hb).trans h2, (World.cell?_of_block (a := ⟨bx, 3, none⟩) hb).trans h3, (World.cell?_of_block (a := ⟨bx, 4, none⟩) hb).trans h4⟩
  have hS3 : ((w3).cell? ⟨bx, 0, none⟩ = some (.int .u64 3) ∧ (w3).cell? ⟨bx, 1, none⟩ = some (.string { data := #[97, 110, 110] }) ∧ (w3).cell? ⟨bx, 2, none⟩ = some (.bool false) ∧ (w3).cell? ⟨bx, 3, none⟩ = some (.int .u8 0) ∧ (w3).cell? ⟨bx, 4, none⟩ = some (.int .u64 0)) := ⟨(cell_of hB 0).trans rfl, (cell_of hB 1).trans rfl, (cell_of hB 2).trans rfl, (cell_of hB 3).trans rfl, (cell_of hB 4).trans rfl⟩
  have y2 := free_of hB 2
  have y3 := free_of hB 3
  have y4 := free_of hB 4
  have x2 : w3.setCell ⟨bx, 2, none⟩ (.bool false) = w3 := setCell_idn hB rfl
  have x3 : w3.setCell ⟨bx, 3, none⟩ (.int .u8 0) = w3 := setCell_idn hB rfl
  have x4 : w3.setCell ⟨bx, 4, none⟩ (.int .u64 0) = w3 := setCell_idn hB rfl
  have v2 := hS3.2.2.1
  have v3 := hS3.2.2.2.1
  have v4 := hS3.2.2.2.2
  have hS3d : ((w3.drew).cell? ⟨bx, 0, none⟩ = some (.int .u64 3) ∧ (w3.drew).cell? ⟨bx, 1, none⟩ = some (.string { data := #[97, 110, 110] }) ∧ (w3.drew).cell? ⟨bx, 2, none⟩ = some (.bool false) ∧ (w3.drew).cell? ⟨bx, 3, none⟩ = some (.int .u8 0) ∧ (w3.drew).cell? ⟨bx, 4, none⟩ = some (.int .u64 0)) := hS3
  have hTab3 : TabAt w3.drew Ft bt 0 [] 1 := (hTab2.mod m3 (fun _ x => x.elim)).mod (Mod.refl (fun _ => False) w3).drew (fun _ x => x.elim)
  have HTg3 := Lib.hid ((hTg.mod m3 (fun _ x => x.elim)).mod (Mod.refl (fun _ => False) w3).drew (fun _ x => x.elim))
  have HM3 := Lib.hid ((hM2.out.trans m3).drew)
  have HFl := Lib.hid hFl
  clear hTab hTab2 hTg m1 m2 m3 hM2 hB hw2 hFt hFl
  go_wp2
  refine wp_onlyN ?_
  go_region_held_law (fun w' => ((w').cell? ⟨bx, 0, none⟩ = some (.int .u64 3) ∧ (w').cell? ⟨bx, 1, none⟩ = some (.string { data := #[97, 110, 110] }) ∧ (w').cell? ⟨bx, 2, none⟩ = some (.bool false) ∧ (w').cell? ⟨bx, 3, none⟩ = some (.int .u8 0) ∧ (w').cell? ⟨bx, 4, none⟩ = some (.int .u64 0))) (first | exact hSk _ _ (hSk _ _ (hSk _ _ hS3d m4) m5) m6 | exact hSk _ _ (hSk _ _ hS3d m4) m5 | exact hSk _ _ hS3d m4 | exact hS3) (first
    | (have := t5; go_at_call 18; refine (hA3 Ft bt _ t5).mono ?_; rintro e w6 ⟨rfl, t6, m6⟩)
    | (have := t4; go_at_call 18; refine (hA2 Ft bt _ t4).mono ?_; rintro e w5 ⟨rfl, t5, m5⟩)
    | (go_at_call 18; refine (hA1 Ft bt _ hTab3).mono ?_; rintro e w4 ⟨rfl, t4, m4⟩))
  all_goals refine onlyN_out ?_
  have hS6 := hSk _ _ (hSk _ _ (hSk _ _ hS3d m4) m5) m6
  have hm6 := (m4.trans m5).trans m6
  have hbx6 : bx < w6.heap.size := lt_of_cell hS6.1
  have HTg6 := Lib.hid (HTg3.out.mod hm6 (fun k hk e => by have := (HFl.out k hk).2; omega))
  have HM6 : Hid (Mod (fun _ => False) w w6) := HM3.out.trans' hm6 (fun k hk x => by have := (HFl.out k x).1; omega)
  have T6 := Lib.hid t6
  clear hA1 hA2 hA3 hSk hS3 hS3d hTab3 t4 t5 t6 m4 m5 m6 hm6 HTg3 HM3 x2 x3 x4 y2 y3 y4 v2 v3 v4 hw3
  have hG6 := hG Ft bt w6 T6.out
  go_wp2_with fail
  refine hG6.mono ?_
  rintro e w7 ⟨rfl, m7⟩
  have hS7 : ((w7).cell? ⟨bx, 0, none⟩ = some (.int .u64 3) ∧ (w7).cell? ⟨bx, 1, none⟩ = some (.string { data := #[97, 110, 110] }) ∧ (w7).cell? ⟨bx, 2, none⟩ = some (.bool false) ∧ (w7).cell? ⟨bx, 3, none⟩ = some (.int .u8 0) ∧ (w7).cell? ⟨bx, 4, none⟩ = some (.int .u64 0)) := ⟨keepR m7 hS6.1, keepR m7 hS6.2.1, keepR m7 hS6.2.2.1, keepR m7 hS6.2.2.2.1, keepR m7 hS6.2.2.2.2⟩
  have hbx7 : bx < w7.heap.size := by have := m7.size; omega
  have m8 := m7.alloc (.cells #[.int .u64 3, .string { data := #[97, 110, 110] }, .bool false, .int .u8 0, .int .u64 0] 59)
  have hB8 := new_at w7 (.cells #[.int .u64 3, .string { data := #[97, 110, 110] }, .bool false, .int .u8 0, .int .u64 0] 59)
  have hTg8 := HTg6.out.mod m8 (fun _ x => x.elim)
  have hTb8 := T6.out.mod m8 (fun _ x => x.elim)
  have hsz8 : w7.heap.size < (w7.alloc (.cells #[.int .u64 3, .string { data := #[97, 110, 110] }, .bool false, .int .u8 0, .int .u64 0] 59)).heap.size := by simp
  have hM8 := HM6.out.trans m8
  have hB1' := hB1 _ _ _ hTg8
  obtain ⟨by_, hby⟩ : ∃ by_, w7.heap.size = by_ := ⟨_, rfl⟩
  rw [hby] at hB8 hsz8 hbx7
  obtain ⟨w8, hw8⟩ : ∃ w8, (w7.alloc (.cells #[.int .u64 3, .string { data := #[97, 110, 110] }, .bool false, .int .u8 0, .int .u64 0] 59)) = w8 := ⟨_, rfl⟩
  have hX8 : ((w8).cell? ⟨bx, 0, none⟩ = some (.int .u64 3) ∧ (w8).cell? ⟨bx, 1, none⟩ = some (.string { data := #[97, 110, 110] }) ∧ (w8).cell? ⟨bx, 2, none⟩ = some (.bool false) ∧ (w8).cell? ⟨bx, 3, none⟩ = some (.int .u8 0) ∧ (w8).cell? ⟨bx, 4, none⟩ = some (.int .u64 0)) := by
    rw [← hw8]
    have ma := (Mod.refl (fun _ => False) w7).alloc (.cells #[.int .u64 3, .string { data := #[97, 110, 110] }, .bool false, .int .u8 0, .int .u64 0] 59)
    exact ⟨keepR ma hS7.1, keepR ma hS7.2.1, keepR ma hS7.2.2.1, keepR ma hS7.2.2.2.1, keepR ma hS7.2.2.2.2⟩
  rw [hw8] at hB8 hTb8 hM8
  have hsz8' : by_ < w8.heap.size := lt_of hB8
  have HW8 := Lib.hid hw8
  clear hw8
  have HX8 := Lib.hid hX8
  have HB8 := Lib.hid hB8
  have HTb8 := Lib.hid hTb8
  have HM8 := Lib.hid hM8
  clear hG hG6 hB1 hTg8 hTb8 hM8 hB8 hsz8 hS6 hS7 hX8 m7 m8 HTg6 T6 HM6 hbx6
  go_wp2_with fail
  refine hB1'.mono ?_
  rw [HW8.out]
  rintro e w9 ⟨rfl, F1, g1, q1, k1⟩
  have f1 := step3 (c := by_) (F := (· = bg)) (fun k hk => Or.inl hk) k1 hsz8'
  have MT : Mod (fun k => k = bg ∨ by_ < k) w8 w9 := q1.mono fun k _ hk => Or.inl hk
  clear hB1' HW8
  have hH := hB2 _ _ _ g1
  go_wp2_with fail
  refine hH.mono ?_
  rintro e w10 ⟨rfl, F2, g2, q2, k2⟩
  have f2 := step3 (c := by_) f1 k2 (Nat.lt_of_lt_of_le hsz8' MT.size)
  replace MT := MT.trans (q2.mono fun k _ hk => f1 k hk)
  clear hH hB2 g1 q2
  have hH := hF _ _ _ g2
  go_wp2_with fail
  refine hH.mono ?_
  rintro e w11 ⟨rfl, F3, g3, q3, k3⟩
  have f3 := step3 (c := by_) f2 k3 (Nat.lt_of_lt_of_le hsz8' MT.size)
  replace MT := MT.trans (q3.mono fun k _ hk => f2 k hk)
  clear hH hF g2 q3
  have hE' := hE _ _ _ g3
  go_wp2_with fail
  refine hE'.mono ?_
  rintro e w12 ⟨v, rfl, hv, F4, g4, q4, k4⟩
  replace MT := MT.trans (q4.mono fun k _ hk => f3 k hk)
  obtain ⟨va, vc, rfl, hvc, hvx⟩ := hv.form
  obtain ⟨g, off, rfl, _, _, hc0⟩ := hvx 0 (.int .u16 2) rfl
  have hTb12 := HTb8.out.mod MT (fun k hk hf => by have := (HFl.out k hf).2; rcases hk with h | h <;> omega)
  have hx12 := MT.block bx (lt_of_cell HX8.out.1) (by omega)
  have hy12 := (MT.block by_ (lt_of HB8.out) (by omega)).trans HB8.out
  have xc : ∀ i v, w8.cell? ⟨bx, i, none⟩ = some v → w12.cell? ⟨bx, i, none⟩ = some v := fun i v h => (World.cell?_of_block (a := ⟨bx, i, none⟩) hx12).trans h
  have x0 := xc _ _ HX8.out.1
  have x1 := xc _ _ HX8.out.2.1
  have x2 := xc _ _ HX8.out.2.2.1
  have x3 := xc _ _ HX8.out.2.2.2.1
  have x4 := xc _ _ HX8.out.2.2.2.2
  have y0 : w12.cell? ⟨by_, 0, none⟩ = some (.int .u64 3) := (cell_of hy12 0).trans rfl
  have y1 : w12.cell? ⟨by_, 1, none⟩ = some (.string { data := #[97, 110, 110] }) := (cell_of hy12 1).trans rfl
  have y2 : w12.cell? ⟨by_, 2, none⟩ = some (.bool false) := (cell_of hy12 2).trans rfl
  have y3 : w12.cell? ⟨by_, 3, none⟩ = some (.int .u8 0) := (cell_of hy12 3).trans rfl
  have y4 : w12.cell? ⟨by_, 4, none⟩ = some (.int .u64 0) := (cell_of hy12 4).trans rfl
  have hO' := hO _ _ _ hTb12
  have HM12 : Hid (Mod (fun _ => False) w w12) := HM8.out.trans' MT (fun k hk x => by have := HM8.out.size; rcases x with h | h <;> omega)
  rw [Nat.add_zero] at hc0
  have hc0' := hc0
  have j3 : (1 : Int) ≤ (vc : Int) := by simp at hvc; omega
  clear hv hvx g4 q4 k4 hTb12 hx12 hy12 xc hE hE' hO MT
  go_wp2_with fail
  refine hO'.mono ?_
  rintro e w13 ⟨rfl, m13⟩
  have hc0 := keepR m13 hc0'
  have HM13 := Lib.hid (HM12.out.trans m13)
  clear m13
  go_wp2
  go_ret
  exact ⟨rfl, HM13.out⟩
end Go.Proofs.Ytcadkaedahoefaa
