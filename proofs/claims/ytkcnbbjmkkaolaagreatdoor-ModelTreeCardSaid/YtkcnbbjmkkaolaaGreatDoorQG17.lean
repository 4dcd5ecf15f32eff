/- The package's tree: New.
   The law of the trees: works. -/
import Derived.Test.YtkcnbbjmkkaolaaGreatDoorQG09
import Derived.Test.YtkcnbbjmkkaolaaGreatDoorQG00
import Derived.Test.YtkcnbbjmkkaolaaGreatDoorQG15
import Derived.Test.YtkcnbbjmkkaolaaGreatDoorQG13
import Derived.Test.YtkcnbbjmkkaolaaGreatDoorQG12
set_option linter.unusedVariables false
set_option linter.unusedSimpArgs false
namespace Go.Proofs.YtkcnbbjmkkaolaaGreatDoor
open Go.RowKit

def newR (b mb an k : Nat) : Role := if k = b then .obj else if k = mb then .map else if k = an then .node 1 else .none
theorem newR_some {b mb an k : Nat} (h : newR b mb an k ≠ .none) : k = b ∨ k = mb ∨ k = an := by
  unfold newR at h
  by_cases h1 : k = b
  · exact .inl h1
  · by_cases h2 : k = mb
    · exact .inr (.inl h2)
    · by_cases h3 : k = an
      · exact .inr (.inr h3)
      · rw [if_neg h1, if_neg h2, if_neg h3] at h; exact absurd rfl h
theorem root_mode (owner : ByteArray) (now : Nat) : modeOf (rootNd owner now) = 2147484141 := by
  unfold modeOf rootNd
  simp
theorem root_lit (owner : ByteArray) (now : Nat) : (.cells #[.int .u16 0, .int .u32 0, .int .u8 128, .int .u32 0, .int .u64 1, .int .u32 2147484141, .int .u32 now, .int .u32 now, .int .u64 0, .string { data := #[47] }, .string owner, .string owner, .string owner, .int .u64 1, .string { data := #[] }, .slice none 0 0] 78 : Obj) = pnO (rootNd owner now) (.slice none 0 0) := by
  unfold pnO pnC
  rw [root_mode]
  unfold rootNd
  simp
  try rfl
set_option maxHeartbeats 4000000 in
set_option maxRecDepth 100000 in
theorem pnew_any (owner : ByteArray) (now : Nat) (w : World) (hs : owner.size ≤ 65536) (hT : Tabs w) :
    Calls Tryz.prog 10 #[.string owner, .int .u32 now] w fun e w' => (userOk owner = false → e = .returned (.tuple #[.pointer none, .int .i64 183]) ∧ Mod (fun _ => False) w w') ∧
      (userOk owner = true → ∃ b ρ mb am vk, e = .returned (.tuple #[.pointer (some ⟨b, 0, none⟩), .int .i64 0]) ∧ PTreeP w' ρ b mb 1 (newT owner now) am vk ∧ Mod (fun _ => False) w w' ∧ ∀ k, ρ k ≠ .none → w.heap.size ≤ k) := by
  have hU := muser_any owner w (by omega) hT
  unfold nmE at hU
  cases hu : userOk owner with
  | false =>
    rw [hu] at hU
    simp only [Bool.false_eq_true, if_false] at hU
    clear hu hT
    go_enter Tryz.func10, Tryz.ntmps10
    go_wp2_with fail
    refine hU.mono ?_
    rintro e w1 ⟨rfl, m1⟩
    go_wp2
    go_ret2
    exact ⟨fun _ => ⟨rfl, m1⟩, fun h => by cases h⟩
  | true =>
    rw [hu] at hU
    simp only [if_true] at hU
    clear hu hT
    have hmm := @run_makeMap Tryz.prog
    go_enter Tryz.func10, Tryz.ntmps10
    go_wp2_with fail
    refine hU.mono ?_
    rintro e w1 ⟨rfl, m1⟩
    clear hU
    have hone : ∀ u ∈ ([.int .u16 0, .int .u32 0, .int .u8 128, .int .u32 0, .int .u64 1, .int .u32 2147484141, .int .u32 now, .int .u32 now, .int .u64 0, .string { data := #[47] }, .string owner, .string owner, .string owner] : List Value), u.oneCell' = true := by
      intro u hu
      simp only [List.mem_cons, List.not_mem_nil, or_false] at hu
      rcases hu with rfl | rfl | rfl | rfl | rfl | rfl | rfl | rfl | rfl | rfl | rfl | rfl | rfl <;> rfl
    go_upto_region 5 with (refine wpl_store_row rfl 37 (.tmp 7) (.tmp 19) rfl rfl w1.heap.size [.int .u16 0, .int .u32 0, .int .u8 128, .int .u32 0, .int .u64 1, .int .u32 2147484141, .int .u32 now, .int .u32 now, .int .u64 0, .string { data := #[47] }, .string owner, .string owner, .string owner] rfl rfl 37 _ (new_at _ _) rfl hone (by kernel_rfl) ?_; intro V1 hd1 md1)
    have hrs : ∀ U, Mod (fun _ => False) V1 U → U.rangeAt w1.heap.size 0 [.int .u16 0, .int .u32 0, .int .u8 128, .int .u32 0, .int .u64 1, .int .u32 2147484141, .int .u32 now, .int .u32 now, .int .u64 0, .string { data := #[47] }, .string owner, .string owner, .string owner] := fun U hU j u hu => by
      rw [Nat.zero_add, cell_of ((hU.block _ (lt_of hd1) (fun x => x)).trans hd1), List.getElem?_toArray]; exact hu
    have mV : Mod (fun _ => False) w V1 := (m1.alloc _).trans' md1 fun k hk e => by have := m1.size; omega
    have hsw : w.heap.size ≤ V1.heap.size := mV.size
    obtain ⟨Wm, hWm⟩ : ∃ Wm, V1.alloc (.map #[] 0) = Wm := ⟨_, rfl⟩
    have hM0 : MapS Tryz.prog 33 encU64 Wm V1.heap.size 0 (fun _ => none) 0 := by rw [← hWm]; exact MapS.made V1 _ _ _
    have hWms : Wm.heap.size = V1.heap.size + 1 := by rw [← hWm]; exact World.size_alloc _ _
    have mM : Mod (fun _ => False) V1 Wm := by rw [← hWm]; exact (Mod.refl _ _).alloc _
    obtain ⟨Wn, hWn⟩ : ∃ Wn, Wm.alloc (.cells #[.int .u16 0, .int .u32 0, .int .u8 128, .int .u32 0, .int .u64 1, .int .u32 2147484141, .int .u32 now, .int .u32 now, .int .u64 0, .string { data := #[47] }, .string owner, .string owner, .string owner, .int .u64 1, .string { data := #[] }, .slice none 0 0] 78) = Wn := ⟨_, rfl⟩
    have mN : Mod (fun _ => False) Wm Wn := by rw [← hWn]; exact (Mod.refl _ _).alloc _
    have hnode : Wn.heap[V1.heap.size + 1]? = some (pnO (rootNd owner now) (.slice none 0 0)) := by rw [← hWn, ← root_lit]; exact new_at' Wm _ _ hWms.symm
    obtain ⟨Wi, hrun, hMi, mI⟩ := (hM0.mod mN (fun x => x)).store encU64_inj lawM Tryz.underlying79 (by unfold maxLen; omega) (v := .pointer (some ⟨V1.heap.size + 1, 0, none⟩)) (key_u64 Tryz.underlying33 (p := 1) (by decide))
    have hrun' : (Instr.mapUpdate 79 (.map (some V1.heap.size)) (.int .u64 1) (.pointer (some ⟨V1.heap.size + 1, 0, none⟩))).run Tryz.prog Wn = .ok () Wi := hrun
    have hrow := hrs Wm mM
    have HMI := Lib.hid hMi
    have HN := Lib.hid hnode
    have MI := Lib.hid mI
    have MV := Lib.hid mV
    have MMN := Lib.hid (mM.trans mN)
    clear hd1 md1 hone hM0 mM mN hMi hnode mI mV hrun hrs
    go_wp2_with (refine wpList_load_mid rfl 37 (.tmp 7) rfl w1.heap.size 0 rfl [.int .u16 0, .int .u32 0, .int .u8 128, .int .u32 0, .int .u64 1, .int .u32 2147484141, .int .u32 now, .int .u32 now, .int .u64 0, .string { data := #[47] }, .string owner, .string owner, .string owner] _ hrow Tryz.underlying37 rfl (by kernel_rfl) ?_)
    go_ret2
    refine ⟨(fun h => by cases h), fun _ => ?_⟩
    obtain ⟨W9, hW9⟩ : ∃ W9, Wi.alloc (.cells #[.map (some V1.heap.size), .int .u64 1] 81) = W9 := ⟨_, rfl⟩
    rw [hW9]
    have hWi : V1.heap.size + 2 ≤ Wi.heap.size := by have h1 := lt_of HN.out; have h2 := MI.out.size; omega
    have m9 : Mod (fun _ => False) Wi W9 := by rw [← hW9]; exact (Mod.refl _ _).alloc _
    have hobj : W9.heap[Wi.heap.size]? = some (.cells #[.map (some V1.heap.size), .int .u64 1] 81 (0, 0)) := by rw [← hW9]; exact new_at _ _
    have hmem : ∀ n ∈ (newT owner now).L, n = rootNd owner now := fun n hn => List.mem_singleton.1 hn
    refine ⟨Wi.heap.size, newR Wi.heap.size V1.heap.size (V1.heap.size + 1), V1.heap.size, fun _ => V1.heap.size + 1, fun _ => .slice none 0 0, rfl, ⟨hobj, ?_, fun n hn => ?_, fun n hn => ?_, ?_, ?_, fun n hn => ?_, fun n hn k hk => ?_, fun k hk => ?_⟩, ?_, fun k hk => ?_⟩
    · refine (HMI.out.mod m9 (fun x => x)).congr (fun q => ?_) rfl
      unfold fN
      show Option.map _ (look [rootNd owner now] q) = _
      by_cases e : q = 1
      · subst e; rfl
      · rw [if_neg e]
        have : look [rootNd owner now] q = none := by
          unfold look
          rw [List.find?_cons, show ((rootNd owner now).path == q) = false from by simp [rootNd]; exact fun x => e x.symm, List.find?_nil]
        rw [this]; rfl
    · rw [hmem n hn]
      exact (m9.block _ (by omega) (fun x => x)).trans ((MI.out.block _ (lt_of HN.out) (by omega)).trans HN.out)
    · rw [hmem n hn]; exact OwnA.nil _ _ _
    · unfold newR; rw [if_pos rfl]
    · unfold newR; rw [if_neg (by omega), if_pos rfl]
    · rw [hmem n hn]
      unfold newR; rw [if_neg (by omega), if_neg (by omega), if_pos rfl]; rfl
    · simp [Value.ownBlock] at hk
    · have hb := lt_of hobj
      rcases newR_some hk with e | e | e <;> omega
    · exact ((MV.out.trans MMN.out).trans' MI.out fun k hk e => by omega).trans m9
    · rcases newR_some hk with e | e | e <;> omega
end Go.Proofs.YtkcnbbjmkkaolaaGreatDoor
namespace Go.Proofs.YtkcnbbjmkkaolaaGreatDoor
open Go.RowKit

def annB : ByteArray := ⟨#[97, 110, 110]⟩
def wkT0 : Tr := newT annB 5
def wkC : Tr × Qi × Int := createT wkT0 1 ⟨#[97]⟩ 420 1 annB 6
def wkW : Tr × Nat × Int := writeT wkC.1 2 3 ⟨#[120, 121]⟩ annB 7
theorem wk_ann : userOk annB = true := by kernel_rfl
theorem wk_c : wkC.2 = (⟨0, 0, 2⟩, 0) := by kernel_rfl
theorem wk_w : wkW.2 = (2, 0) := by kernel_rfl
theorem wk_r : readT wkW.1 2 0 9 = (⟨#[0, 0, 0, 120, 121]⟩, 0) := by kernel_rfl
theorem wk_s : (statT wkW.1 2).2 = 0 ∧ (statT wkW.1 2).1.len = 5 ∧ (statT wkW.1 2).1.qv = 1 ∧ (statT wkW.1 2).1.mo = 420 := ⟨by kernel_rfl, by kernel_rfl, by kernel_rfl, by kernel_rfl⟩
theorem wk_x : (removeT wkW.1 1 annB 9).2 = 187 := by kernel_rfl
theorem wk_u : userOk ⟨#[97, 47, 98]⟩ = false := by kernel_rfl
theorem wk_f0 : WF wkT0 := new_wf (by decide) (by decide)
theorem wk_f1 : WF wkC.1 := create_wf wk_f0 1 420 1 (by decide) (by decide) (by decide) (by decide)
theorem wk_f2 : WF wkW.1 := write_wf wk_f1 2 3 _ (by decide) (by decide)
set_option maxHeartbeats 8000000 in
set_option maxRecDepth 100000 in
theorem works_any (w : World) (hT : Tabs w) : Calls Tryz.prog 9 #[] w fun e w' => e = .returned (.bool true) ∧ Mod (fun _ => False) w w' := by
  have hN : Calls Tryz.prog 10 #[.string ⟨#[97, 110, 110]⟩, .int .u32 5] w fun e w' => ∃ b ρ mb am vk, e = .returned (.tuple #[.pointer (some ⟨b, 0, none⟩), .int .i64 0]) ∧ PTreeP w' ρ b mb 1 wkT0 am vk ∧ Mod (fun _ => False) w w' ∧ ∀ k, ρ k ≠ .none → w.heap.size ≤ k :=
    (pnew_any annB 5 w (by decide) hT).mono fun e w' x => x.2 wk_ann
  have HT := Lib.hid hT
  clear hT
  go_enter Tryz.func9, Tryz.ntmps9
  go_wp2_with fail
  refine hN.mono ?_
  rintro e w1 ⟨b, ρ, mb, am, vk, rfl, hp1, m1, hr1⟩
  have hC : Calls Tryz.prog 22 #[.pointer (some ⟨b, 0, none⟩), .int .u64 1, .string ⟨#[97]⟩, .int .u32 420, .int .u8 1, .string ⟨#[97, 110, 110]⟩, .int .u32 6] w1 fun e w' => PCst b mb 1 ρ wkC w1 e w' :=
    pcreate_any hp1 wk_f0 (by decide) 1 ⟨#[97]⟩ 420 1 annB 6 (by decide) (by decide) (by decide) (by decide) (by decide) (by decide) (HT.out.mod m1)
  have M1 := Lib.hid m1
  have HR1 := Lib.hid hr1
  clear hN m1 hr1 hp1
  go_wp2_with fail
  refine hC.mono ?_
  rintro e w2 ⟨rfl, ρ2, am2, vk2, hp2, m2, g2⟩
  rw [wk_c]
  have M2 : Hid (Mod (fun _ => False) w w2) := M1.out.trans' m2 fun k hk e => by have := HR1.out k e; omega
  have HR2 : Hid (∀ k, ρ2 k ≠ .none → w.heap.size ≤ k) := fun k hk => by
    rcases g2 k hk with x | x
    · exact HR1.out k x
    · have := M1.out.size; omega
  have HP2 := Lib.hid hp2
  clear hC m2 g2 HR1 M1 hp2
  go_upto_region 5 with (refine wpl_store_row rfl 35 (.tmp 3) (.tmp 24) rfl rfl w2.heap.size (qiC ⟨0, 0, 2⟩) rfl rfl 35 _ (new_at _ _) rfl (qi_one _) (by kernel_rfl) ?_; intro V2 hq2 mq2)
  have m3 : Mod (fun _ => False) w2 V2 := ((Mod.refl (fun _ => False) w2).alloc _).trans' mq2 fun k hk e => by omega
  have HP3 := Lib.hid (HP2.out.mod0 m3)
  have M3 : Hid (Mod (fun _ => False) w V2) := M2.out.trans m3
  have HQ3 : Hid (V2.heap[w2.heap.size]? = some (qiO ⟨0, 0, 2⟩) ∧ ¬ Foot ρ2 w2.heap.size) := ⟨hq2, fun x => by have := HP2.out.lt _ x; omega⟩
  have hW : Calls Tryz.prog 23 #[.pointer (some ⟨b, 0, none⟩), .int .u64 2, .int .u64 3, .string ⟨#[120, 121]⟩, .string ⟨#[97, 110, 110]⟩, .int .u32 7] V2 fun e w' => PWst ρ2 b mb (1 + 1) am2 vk2 wkW V2 e w' :=
    pwrite_any HP3.out wk_f1 2 3 ⟨#[120, 121]⟩ annB 7 (by decide) (by decide) (by decide)
  clear hq2 mq2 m3 HP2 M2
  generalize w2.heap.size = a2 at *
  go_wp2_with fail
  refine hW.mono ?_
  rintro e w4 ⟨rfl, hp4, m4⟩
  rw [wk_w]
  have HP4 := Lib.hid hp4
  have M4 : Hid (Mod (fun _ => False) w w4) := M3.out.trans' m4 fun k hk e => by have := HR2.out k e; omega
  have HQ4 : Hid (w4.heap[a2]? = some (qiO ⟨0, 0, 2⟩)) := (m4.block _ (lt_of HQ3.out.1) HQ3.out.2).trans HQ3.out.1
  have hRd : Calls Tryz.prog 30 #[.pointer (some ⟨b, 0, none⟩), .int .u64 2, .int .u64 0, .int .u32 9] w4 fun e w' => e = .returned (.tuple #[.string ⟨#[0, 0, 0, 120, 121]⟩, .int .i64 0]) ∧ Mod (fun _ => False) w4 w' := by
    have h := pread_any hp4 wk_f2 2 0 9 (by decide) (by decide) (by decide)
    rw [wk_r] at h
    exact h
  clear hW hp4 m4 HP3 HQ3 M3
  go_wp2_with fail
  refine hRd.mono ?_
  rintro e w5 ⟨rfl, m5⟩
  have HP5 := Lib.hid (HP4.out.mod0 m5)
  have M5 : Hid (Mod (fun _ => False) w w5) := M4.out.trans m5
  have HQ5 : Hid (w5.heap[a2]? = some (qiO ⟨0, 0, 2⟩)) := (m5.block _ (lt_of HQ4.out) (fun x => x)).trans HQ4.out
  obtain ⟨⟨sx, ex⟩, hsx⟩ : ∃ x : St × Int, statT wkW.1 2 = x := ⟨_, rfl⟩
  have hSx := wk_s
  rw [hsx] at hSx
  obtain ⟨hx1, hx2, hx3, hx4⟩ := hSx
  have hSt : Calls Tryz.prog 26 #[.pointer (some ⟨b, 0, none⟩), .int .u64 2] w5 fun e w' => e = .returned (.tuple #[.agg sx.cells.toArray, .int .i64 0]) ∧ Mod (fun _ => False) w5 w' := by
    have h := pstat_any HP5.out wk_f2 2 (by decide)
    rw [hsx] at h
    have hx1 : ex = 0 := hx1
    subst hx1
    exact h
  have HX2 : Hid (sx.len = 5) := hx2
  have HX3 : Hid (sx.qv = 1) := hx3
  have HX4 : Hid (sx.mo = 420) := hx4
  clear hRd m5 HP4 M4 HQ4 hx1 hx2 hx3 hx4 hsx
  go_wp2_with fail
  refine hSt.mono ?_
  rintro e w6 ⟨rfl, m6⟩
  clear hSt
  go_upto_region 8 with (refine wpl_store_row rfl 37 (.tmp 9) (.tmp 39) rfl rfl w6.heap.size sx.cells rfl rfl 37 _ (new_at _ _) rfl (st_one _) (by kernel_rfl) ?_; intro V6 hq6 mq6)
  have m7 : Mod (fun _ => False) w5 V6 := (m6.alloc _).trans' mq6 fun k hk e => by have := m6.size; omega
  have HP6 := Lib.hid (HP5.out.mod0 m7)
  have M6 : Hid (Mod (fun _ => False) w V6) := M5.out.trans m7
  have hq5 : V6.heap[a2]? = some (qiO ⟨0, 0, 2⟩) := (m7.block _ (lt_of HQ5.out) (fun x => x)).trans HQ5.out
  have k2 : V6.cell? ⟨a2, 2, none⟩ = some (.int .u64 2) := (cell_of hq5 2).trans rfl
  have k8 : V6.cell? ⟨w6.heap.size, 8, none⟩ = some (.int .u64 5) := (cell_of hq6 8).trans (by show some (Value.int .u64 (sx.len : Int)) = _; rw [HX2.out]; rfl)
  have k3 : V6.cell? ⟨w6.heap.size, 3, none⟩ = some (.int .u32 1) := (cell_of hq6 3).trans (by show some (Value.int .u32 (sx.qv : Int)) = _; rw [HX3.out]; rfl)
  have k5 : V6.cell? ⟨w6.heap.size, 5, none⟩ = some (.int .u32 420) := (cell_of hq6 5).trans (by show some (Value.int .u32 (sx.mo : Int)) = _; rw [HX4.out]; rfl)
  have hRm : Calls Tryz.prog 32 #[.pointer (some ⟨b, 0, none⟩), .int .u64 1, .string ⟨#[97, 110, 110]⟩, .int .u32 9] V6 fun e w' => e = .returned (.int .i64 187) ∧ Mod (Foot ρ2) V6 w' :=
    (premove_any HP6.out wk_f2 1 annB 9 (by decide)).mono fun e w' x => ⟨by rw [x.1, wk_x], x.2.2⟩
  clear m6 mq6 m7 hq6 hq5 HP5 M5 HQ5
  generalize w6.heap.size = a6 at *
  have e0 : (Value.string ⟨#[0, 0, 0, 120, 121]⟩ : Value) = .string ⟨#[0, 0, 0, 120, 121]⟩ := rfl
  go_wp2_with fail
  refine hRm.mono ?_
  rintro e w7 ⟨rfl, m7⟩
  have M7 : Hid (Mod (fun _ => False) w w7) := M6.out.trans' m7 fun k hk e => by have := HR2.out k e; omega
  have hUs : Calls Tryz.prog 12 #[.string ⟨#[97, 47, 98]⟩] w7 fun e w' => e = .returned (.int .i64 183) ∧ Mod (fun _ => False) w7 w' := by
    have h := muser_any ⟨#[97, 47, 98]⟩ w7 (by decide) (HT.out.mod M7.out)
    rw [wk_u] at h
    exact h
  clear hRm m7 k2 k3 k5 k8
  go_wp2_with fail
  refine hUs.mono ?_
  rintro e w8 ⟨rfl, m8⟩
  have M8 : Hid (Mod (fun _ => False) w w8) := M7.out.trans m8
  clear hUs m8
  go_wp2
  go_ret
  exact ⟨rfl, M8.out⟩
end Go.Proofs.YtkcnbbjmkkaolaaGreatDoor
