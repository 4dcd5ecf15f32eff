/- The package's tree: Walk.
   The package's tree: Open's questions.
   The package's tree: Open.
   The package's tree: Write.
   The package's tree: slices.Index; a file is struck out.
   A tree of files, plain: what changes one file alone keeps the tree whole.
   A tree of files, plain: Open and Write keep it whole.
   A tree of files, plain: a new tree is whole. -/
import Derived.Test.YtkcnbbjmkkaolaaGreatDoorQG07
import Derived.Test.YtkcnbbjmkkaolaaGreatDoorQG00
import Derived.Test.YtkcnbbjmkkaolaaGreatDoorQG06
import Derived.Test.YtkcnbbjmkkaolaaGreatDoorQG04
set_option linter.unusedVariables false
set_option linter.unusedSimpArgs false
namespace Go.Proofs.YtkcnbbjmkkaolaaGreatDoor
open Go.RowKit

theorem walkE_first (T : Tr) (n : Nd) (name who : ByteArray) (f1 f2 f3 f4 : Nat) (c1 c2 c3 c4 : Array Value) :
    firstE [⟨f1, c1, 181, !n.dir⟩, ⟨f2, c2, 182, !mayB n who 1⟩, ⟨f3, c3, 183, !decide (name = dotdot) && !nameOk name⟩, ⟨f4, c4, 180, !decide (name = dotdot) && (kidOf T.L n name).isNone⟩] = walkE T n name who := by
  unfold walkE firstE firstE firstE firstE firstE
  dsimp only
  cases n.dir with
  | false => rfl
  | true =>
    cases mayB n who 1 with
    | false => rfl
    | true =>
      by_cases h : name = dotdot
      · simp [h]
      · cases nameOk name with
        | false => simp [h]
        | true =>
          cases kidOf T.L n name with
          | none => simp [h]
          | some k => simp [h]
theorem pn_qid {w : World} {a : Nat} {n : Nd} {vk : Value} (h : w.heap[a]? = some (pnO n vk)) : w.rangeAt a 2 (qiC (qidOf n)) := fun j u hu => by
  rw [cell_of h, List.getElem?_toArray]
  have hj : j < 3 := by rw [← qi_len (qidOf n)]; exact (List.getElem?_eq_some_iff.1 hu).1
  rcases j with _ | _ | _ | j
  · show (pnC (n, vk))[2]? = some u
    obtain ⟨_, d, _, _, _, _, _, _, _, _, _, _, _⟩ := n
    cases d <;> exact hu
  · show (pnC (n, vk))[3]? = some u; exact hu
  · show (pnC (n, vk))[4]? = some u; exact hu
  · omega
theorem keepX {R : Nat} {U V : World} (hm : Mod (· = R) U V) {b i : Nat} {v : Value} (hne : b ≠ R) (h : U.cell? ⟨b, i, none⟩ = some v) : V.cell? ⟨b, i, none⟩ = some v :=
  (World.cell?_of_block (a := ⟨b, i, none⟩) (hm.block b (World.block_lt_of_cell? _ _ h) hne)).trans h
theorem walkE_err {T : Tr} {p : Nat} {n : Nd} {name who : ByteArray} (hl : look T.L p = some n) (h : walkE T n name who ≠ 0) : walkT T p name who = (Qi.zero, walkE T n name who) := by
  unfold walkT; rw [hl]; exact if_pos h
set_option maxHeartbeats 4000000 in
set_option maxRecDepth 100000 in
theorem pwalk_any {w : World} {ρ : Nat → Role} {b mb cnt : Nat} {T : Tr} {am : Nat → Nat} {vk : Nat → Value} (h : PTreeP w ρ b mb cnt T am vk) (hwf : WF T) (p : Nat) (name who : ByteArray) (hp : p < 18446744073709551616) (hnm : name.size ≤ 65536) (hTb : Tabs w) :
    Calls Tryz.prog 28 #[.pointer (some ⟨b, 0, none⟩), .int .u64 p, .string name, .string who] w fun e w' => e = .returned (.tuple #[.agg (qiC (walkT T p name who).1).toArray, .int .i64 (walkT T p name who).2]) ∧ Mod (fun _ => False) w w' := by
  obtain ⟨W0, hW0⟩ : ∃ W0, (((w.alloc (.cells #[.pointer (some ⟨b, 0, none⟩)] 26)).alloc (.cells #[.string name] 9)).alloc (.cells #[.string who] 9)).alloc (.cells #[.int .u8 0, .int .u32 0, .int .u64 0] 35) = W0 := ⟨_, rfl⟩
  have hsz : W0.heap.size = w.heap.size + 4 := by subst hW0; simp
  have hb0 : BoxA W0 w.heap.size (ptr b) 26 := by subst hW0; exact alloc_keep (alloc_keep (alloc_keep (new_at _ _)))
  have hb1 : BoxA W0 (w.heap.size + 1) (.string name) 9 := by subst hW0; exact alloc_keep (alloc_keep (new_at' _ _ _ (by simp)))
  have hb2 : BoxA W0 (w.heap.size + 1 + 1) (.string who) 9 := by subst hW0; exact alloc_keep (new_at' _ _ _ (by simp))
  have hbz : W0.heap[w.heap.size + 1 + 1 + 1]? = some (qiO Qi.zero) := by subst hW0; exact new_at' _ _ _ (by simp)
  have M0 : Mod (fun _ => False) w W0 := by subst hW0; exact (((((Mod.refl _ w).alloc _).alloc _).alloc _).alloc _)
  have H0 := h.mod0 M0
  have hG := pget_any H0 p hp
  have c0 : W0.cell? ⟨w.heap.size, 0, none⟩ = some (.pointer (some ⟨b, 0, none⟩)) := hb0.cell
  cases hl : look T.L p with
  | none =>
    have e1 : ptrV T.L am p = .pointer none := by unfold ptrV; rw [hl]
    have HV : Hid (walkT T p name who = (Qi.zero, 180)) := by show _ = _; unfold walkT; rw [hl]
    rw [e1, hl] at hG
    simp only [Option.isSome_none, Bool.false_eq_true, if_false] at hG
    obtain ⟨W1, hW1⟩ : ∃ W1, W0.alloc (.cells #[.pointer none] 75) = W1 := ⟨_, rfl⟩
    have hn1 : W1.heap[w.heap.size + 4]? = some (.cells #[.pointer none] 75 (0, 0)) := by subst hW1; exact new_at' _ _ _ hsz.symm
    have q1 : W1.cell? ⟨w.heap.size + 4, 0, none⟩ = some (.pointer none) := (cell_of hn1 0).trans rfl
    have q2 : W1.frozen? ⟨w.heap.size + 4, 0, none⟩ = false := free_of hn1 0
    have q3 : W1.setCell ⟨w.heap.size + 4, 0, none⟩ (.pointer none) = W1 := setCell_idR hn1 rfl
    have HZ : Hid (W1.heap[w.heap.size + 1 + 1 + 1]? = some (qiO Qi.zero)) := by subst hW1; exact alloc_keep hbz
    have M1 : Hid (Mod (fun _ => False) w W1) := by subst hW1; exact M0.alloc _
    clear hn1 hb0 hb1 hb2 hbz H0 h hwf hTb e1 hl
    go_enter Tryz.func28, Tryz.ntmps28
    go_wp2_with fail
    clear hW0
    refine hG.mono ?_
    rintro e w1 ⟨rfl, rfl⟩
    go_upto_region 3 with (fail)
    clear hW1
    refine wp_region_lit ?_
    iterate 2
      refine wpList_plain rfl fun K hK => ?_
      go_simp
      refine hK _ _ ?_
      clear hK K
    refine wpl_store_row rfl 35 (.tmp 8) (.tmp 21) rfl rfl (w.heap.size + 1 + 1 + 1) (qiC Qi.zero) rfl rfl 35 _ HZ.out rfl (qi_one _) (by kernel_rfl) ?_
    intro V9 hv9 mv9
    refine wpList_plain rfl fun K hK => ?_
    go_simp
    refine hK _ _ ?_
    clear hK K
    refine wpList_nil ?_
    have MV : Hid (Mod (fun _ => False) w V9) := (M1.out).trans' mv9 fun k hk e => by omega
    go_wp2
    refine bodyPost_ret (results_cell2 rfl _ _ V9 (w.heap.size + 1 + 1 + 1) (qiC Qi.zero) _ rfl (qi_rng hv9) Tryz.underlying35 rfl (by kernel_rfl)) rfl ⟨by rw [HV.out]; rfl, MV.out⟩
  | some n =>
    obtain ⟨hnm', hnp⟩ := look_some hl
    have e1 : ptrV T.L am p = .pointer (some ⟨am p, 0, none⟩) := by unfold ptrV; rw [hl]
    rw [e1, hl] at hG
    simp only [Option.isSome_some, if_true] at hG
    obtain ⟨u, hu⟩ : ∃ u, decide (name = dotdot) = u := ⟨_, rfl⟩
    have t2 : (name.toList == [46, 46]) = u := by have h := str_beq name dotdot; rw [hu, dd_list] at h; exact h
    obtain ⟨W1, hW1⟩ : ∃ W1, W0.alloc (.cells #[.pointer (some ⟨am p, 0, none⟩)] 75) = W1 := ⟨_, rfl⟩
    have hsz1 : W1.heap.size = w.heap.size + 5 := by subst hW1; rw [World.size_alloc, hsz]
    have hn1 : BoxA W1 (w.heap.size + 4) (ptr (am n.path)) 75 := by subst hW1; rw [hnp]; exact new_at' _ _ _ hsz.symm
    have M1 : Mod (fun _ => False) W0 W1 := by subst hW1; exact (Mod.refl _ _).alloc _
    obtain ⟨W2, hW2⟩ : ∃ W2, W1.alloc (.cells #[.bool u] 4) = W2 := ⟨_, rfl⟩
    have hsz2 : W2.heap.size = w.heap.size + 6 := by subst hW2; rw [World.size_alloc, hsz1]
    have hn2 : BoxA W2 (w.heap.size + 5) (.bool u) 4 := by subst hW2; exact new_at' _ _ _ hsz1.symm
    have M2 : Mod (fun _ => False) W1 W2 := by subst hW2; exact (Mod.refl _ _).alloc _
    obtain ⟨W3, hW3⟩ : ∃ W3, W2.alloc (.cells #[.func (.func 68) #[] #[ptr (w.heap.size + 4)], .int .i64 181, .func (.func 69) #[] #[ptr (w.heap.size + 4), ptr (w.heap.size + 1 + 1)], .int .i64 182, .func (.func 70) #[] #[ptr (w.heap.size + 5), ptr (w.heap.size + 1)], .int .i64 183, .func (.func 71) #[] #[ptr (w.heap.size + 5), ptr w.heap.size, ptr (w.heap.size + 4), ptr (w.heap.size + 1)], .int .i64 180] 95) = W3 := ⟨_, rfl⟩
    have hask : W3.heap[w.heap.size + 6]? = some (.cells #[.func (.func 68) #[] #[ptr (w.heap.size + 4)], .int .i64 181, .func (.func 69) #[] #[ptr (w.heap.size + 4), ptr (w.heap.size + 1 + 1)], .int .i64 182, .func (.func 70) #[] #[ptr (w.heap.size + 5), ptr (w.heap.size + 1)], .int .i64 183, .func (.func 71) #[] #[ptr (w.heap.size + 5), ptr w.heap.size, ptr (w.heap.size + 4), ptr (w.heap.size + 1)], .int .i64 180] 95 (0, 0)) := by subst hW3; exact new_at' _ _ _ hsz2.symm
    have M3 : Mod (fun _ => False) W2 W3 := by subst hW3; exact (Mod.refl _ _).alloc _
    have M23 := M2.trans M3
    have M123 := M1.trans M23
    have M := M0.trans M123
    have H3 := h.mod0 M
    have hno := hwf.ok n hnm'
    obtain ⟨l, hlq⟩ : ∃ l : List Ask, l = [⟨68, #[ptr (w.heap.size + 4)], 181, !n.dir⟩, ⟨69, #[ptr (w.heap.size + 4), ptr (w.heap.size + 1 + 1)], 182, !mayB n who 1⟩, ⟨70, #[ptr (w.heap.size + 5), ptr (w.heap.size + 1)], 183, !u && !nameOk name⟩, ⟨71, #[ptr (w.heap.size + 5), ptr w.heap.size, ptr (w.heap.size + 4), ptr (w.heap.size + 1)], 180, !u && (kidOf T.L n name).isNone⟩] := ⟨_, rfl⟩
    have hF := pfirst_any l (w.heap.size + 6) 4 W3 (by rw [hlq]; exact (by decide : 4 ≤ 1000)) (by rw [hlq]; exact Nat.le_refl 4)
      (fun j hj => by
        subst hlq
        have hj4 : j < 4 := hj
        rcases j with _ | _ | _ | _ | j
        · exact ⟨cell_of hask 0, cell_of hask 1⟩
        · exact ⟨cell_of hask 2, cell_of hask 3⟩
        · exact ⟨cell_of hask 4, cell_of hask 5⟩
        · exact ⟨cell_of hask 6, cell_of hask 7⟩
        · omega)
      (fun a ha => by
        subst hlq
        simp only [List.mem_cons, List.not_mem_nil, or_false] at ha
        rcases ha with rfl | rfl | rfl | rfl
        · exact enters_of Tryz.func68 (by kernel_rfl) rfl
        · exact enters_of Tryz.func69 (by kernel_rfl) rfl
        · exact enters_of Tryz.func70 (by kernel_rfl) rfl
        · exact enters_of Tryz.func71 (by kernel_rfl) rfl)
      (fun a ha U hU => by
        have HU := H3.mod0 hU
        have k0 := (hb0.mod M123).mod hU
        have k1 := (hb1.mod M123).mod hU
        have k2 := (hb2.mod M123).mod hU
        have k4 := (hn1.mod M23).mod hU
        have k5 := (hn2.mod M3).mod hU
        have kn := HU.node n hnm'
        subst hlq
        simp only [List.mem_cons, List.not_mem_nil, or_false] at ha
        rcases ha with rfl | rfl | rfl | rfl
        · exact (pW1 k4 kn).mono fun e w' he => ⟨he.1, he.2 ▸ Mod.refl _ _⟩
        · exact (pW2 k4 k2 kn hno.perm).mono fun e w' he => ⟨he.1, he.2 ▸ Mod.refl _ _⟩
        · exact pW3 k5 k1 hnm ((hTb.mod M).mod hU)
        · exact pW4 HU hwf hnm' k5 k0 k4 k1)
    have hfe : firstE l = walkE T n name who := by rw [hlq, ← hu]; exact walkE_first ..
    rw [hfe] at hF
    have hll : l.length = 4 := by rw [hlq]; rfl
    rw [hll] at hF
    have c1 : W1.cell? ⟨w.heap.size + 1, 0, none⟩ = some (.string name) := (hb1.mod M1).cell
    have HZ3 : Hid (W3.heap[w.heap.size + 1 + 1 + 1]? = some (qiO Qi.zero)) := (M123.block _ (lt_of hbz) (fun x => x)).trans hbz
    have K0 := Lib.hid (hb0.mod M123)
    have K1 := Lib.hid (hb1.mod M123)
    have K4 := Lib.hid (hn1.mod M23)
    have K5 := Lib.hid (hn2.mod M3)
    have HM := Lib.hid M
    have H3 := Lib.hid H3
    have Hh := Lib.hid h
    have HTa := Lib.hid hTb
    have HWF := Lib.hid hwf
    have HNm := Lib.hid hnm'
    have HU := Lib.hid hu
    have HL := Lib.hid hl
    clear hb0 hb1 hb2 hbz hn1 hn2 H0 h hask M0 M1 M2 M3 M23 M123 M hTb hwf e1 hno hll hfe hu hnm' hnp hl
    clear hlq
    unfold ptr at hW3
    go_enter Tryz.func28, Tryz.ntmps28
    go_wp2_with fail
    clear hW0
    refine hG.mono ?_
    rintro e w1 ⟨rfl, rfl⟩
    go_wp2_with fail
    clear hW1 hW2 hW3
    refine hF.mono ?_
    rintro e W4 ⟨rfl, m4⟩
    clear hF hG
    have HZ4 : Hid (W4.heap[w.heap.size + 1 + 1 + 1]? = some (qiO Qi.zero)) := (m4.block _ (lt_of HZ3.out) (fun x => x)).trans HZ3.out
    have M4 : Hid (Mod (fun _ => False) w W4) := HM.out.trans m4
    have c5 : W4.cell? ⟨w.heap.size + 5, 0, none⟩ = some (.bool u) := (K5.out.mod m4).cell
    have c0 : W4.cell? ⟨w.heap.size, 0, none⟩ = some (ptr b) := (K0.out.mod m4).cell
    have c4 : W4.cell? ⟨w.heap.size + 4, 0, none⟩ = some (ptr (am n.path)) := (K4.out.mod m4).cell
    have c1' : W4.cell? ⟨w.heap.size + 1, 0, none⟩ = some (.string name) := (K1.out.mod m4).cell
    have H4 := Lib.hid (H3.out.mod0 m4)
    clear H3 K5 K0 K4 HZ3 HM c1
    by_cases he : walkE T n name who = 0
    · have t3 : (walkE T n name who != 0) = false := by simp [he]
      have hdd := HU.out
      cases u with
      | true =>
        have hdd := of_decide_eq_true hdd
        obtain ⟨d, hd⟩ := HWF.out.par n HNm.out
        obtain ⟨hdm, hdp⟩ := look_some hd
        have HV : Hid (walkT T p name who = (qidOf d, 0)) := by
          show _ = _
          unfold walkT; rw [HL.out]
          show (if _ then _ else if _ then _ else _ : Qi × Int) = _
          rw [if_neg (fun x => x he), if_pos hdd]
          unfold parOf; rw [hd]; rfl
        have hpp : n.parent < 18446744073709551616 := (HWF.out.ok n HNm.out).parent
        have cp : W4.cell? ⟨am n.path, 13, none⟩ = some (.int .u64 n.parent) := (cell_of (H4.out.node n HNm.out) 13).trans rfl
        have cm := H4.out.c0
        have hH4 : ∀ U, Mod (· = w.heap.size + 1 + 1 + 1) W4 U → PTreeP U ρ b mb cnt T am vk := fun U hU => H4.out.mod hU fun k e => by
          cases hr : ρ k with
          | none => rfl
          | _ => exfalso; have := Hh.out.lt k (by rw [hr]; exact fun x => by cases x); omega
        have hlk : ∀ U, Mod (· = w.heap.size + 1 + 1 + 1) W4 U → (Instr.lookup 79 (.map (some mb)) (.int .u64 n.parent) false).run Tryz.prog U = .ok (.pointer (some ⟨am d.path, 0, none⟩)) U := fun U hU => by
          have := mapN_at (hH4 U hU).map n.parent hpp
          rw [this]
          unfold ptrV; rw [hd, hdp]
        have hrow : ∀ U, Mod (· = w.heap.size + 1 + 1 + 1) W4 U → U.rangeAt (am d.path) 2 (qiC (qidOf d)) := fun U hU => pn_qid ((hH4 U hU).node d hdm)
        have hql := qi_len (qidOf d)
        have hbl : b < w.heap.size := lt_of Hh.out.obj
        have hnl : am n.path < w.heap.size := lt_of (Hh.out.node n HNm.out)
        unfold ptr at c0 c4
        clear he hdd hd hdp hdm hH4
        go_upto_region 9 with (fail)
        refine wp_region_held_drew (S := fun w' => Hid (Mod (· = w.heap.size + 1 + 1 + 1) W4 w')) (by kernel_rfl) (Lib.hid (Mod.refl (· = w.heap.size + 1 + 1 + 1) W4).drew) (fun hHeld => ?_)
        refine hT 0 rfl (fun wH hSw => by have cH := keepX hSw.out (by omega) c0; clear hSw; go_simp; all_goals with_reducible rfl) ?_
        try simp only [gA, gB, gC, Act.put, sA, sB, sC]
        refine hT 1 rfl (fun _ _ => by go_simp; all_goals with_reducible rfl) ?_
        try simp only [gA, gB, gC, Act.put, sA, sB, sC]
        refine hT 2 rfl (fun _ _ => by go_simp; all_goals with_reducible rfl) ?_
        try simp only [gA, gB, gC, Act.put, sA, sB, sC]
        refine hT 3 rfl (fun wH hSw => by have cH := keepX hSw.out (by omega) cm; clear hSw; go_simp; all_goals with_reducible rfl) ?_
        try simp only [gA, gB, gC, Act.put, sA, sB, sC]
        refine hT 4 rfl (fun wH hSw => by have cH := keepX hSw.out (by omega) c4; clear hSw; go_simp; all_goals with_reducible rfl) ?_
        try simp only [gA, gB, gC, Act.put, sA, sB, sC]
        refine hT 5 rfl (fun _ _ => by go_simp; all_goals with_reducible rfl) ?_
        try simp only [gA, gB, gC, Act.put, sA, sB, sC]
        refine hT 6 rfl (fun _ _ => by go_simp; all_goals with_reducible rfl) ?_
        try simp only [gA, gB, gC, Act.put, sA, sB, sC]
        refine hT 7 rfl (fun wH hSw => by have cH := keepX hSw.out (by omega) cp; clear hSw; go_simp; all_goals with_reducible rfl) ?_
        try simp only [gA, gB, gC, Act.put, sA, sB, sC]
        refine hT 8 rfl (fun wH hSw => by have cH := hlk wH hSw.out; clear hSw; go_simp; all_goals with_reducible rfl) ?_
        try simp only [gA, gB, gC, Act.put, sA, sB, sC]
        refine hT 9 rfl (fun _ _ => by go_simp; all_goals with_reducible rfl) ?_
        try simp only [gA, gB, gC, Act.put, sA, sB, sC]
        refine hT 10 rfl (fun _ _ => by go_simp; all_goals with_reducible rfl) ?_
        try simp only [gA, gB, gC, Act.put, sA, sB, sC]
        refine hT 11 rfl (fun _ _ => by go_simp; all_goals with_reducible rfl) ?_
        try simp only [gA, gB, gC, Act.put, sA, sB, sC]
        refine hTy 12 rfl (by kernel_rfl) (fun _ _ _ h => h) (by assumption) (yieldsIf_load_mid (by rfl) 35 (.tmp 53) rfl (am d.path) 2 rfl (qiC (qidOf d)) _ (fun wH hSw => hrow wH hSw.out) Tryz.underlying35 rfl (by kernel_rfl)) ?_
        try simp only [gA, gB, gC, Act.put, sA, sB, sC]
        refine hR1 13 rfl fun K hK => ?_
        refine Eq.mpr (if_pos ?hwant) ?_
        case hwant => rfl
        have hz4 : W4.drew.heap[w.heap.size + 1 + 1 + 1]? = some (qiO Qi.zero) := HZ4.out
        refine wp_store_row 35 (.tmp 8) (.tmp 54) rfl (w.heap.size + 1 + 1 + 1) (qiC (qidOf d)).toArray rfl rfl 35 _ hz4 (by kernel_rfl) rfl (qi_all _) ?_
        have hb9 := setRow_heap _ (w.heap.size + 1 + 1 + 1) _ (qiC (qidOf d)).toArray 35 _ hz4
        have m9 := mod_setRow W4.drew (w.heap.size + 1 + 1 + 1) (qiC (qidOf d)).toArray
        refine hK.out _ _ (Lib.hid (hHeld.out.trans m9)) ?_; clear hK K hHeld; intro hHeld
        try simp only [gA, gB, gC, Act.put, sA, sB, sC]
        refine hT 14 rfl (fun _ _ => by go_simp; all_goals with_reducible rfl) ?_
        try simp only [gA, gB, gC, Act.put, sA, sB, sC]
        refine wpAnyH_done (by kernel_rfl) ?_ _
        go_wp2
        refine bodyPost_ret (results_cell2 rfl _ _ _ (w.heap.size + 1 + 1 + 1) (qiC (qidOf d)) _ rfl (qi_rng hb9) Tryz.underlying35 rfl (by kernel_rfl)) rfl ⟨by rw [HV.out]; rfl, M4.out.trans' hHeld.out fun k hk e => by omega⟩
      | false =>
        have hdd := of_decide_eq_false hdd
        have hko : ∃ k, kidOf T.L n name = some k := by
          cases hk : kidOf T.L n name with
          | some k => exact ⟨k, rfl⟩
          | none =>
            exfalso
            rw [← walkE_first T n name who 0 0 0 0 #[] #[] #[] #[]] at he
            rw [hk] at he
            simp only [firstE, Option.isNone_none, Bool.and_true] at he
            rw [decide_eq_false hdd] at he
            simp only [Bool.not_false, if_true, Bool.true_and] at he
            repeat' split at he
            all_goals exact absurd he (by decide)
        obtain ⟨k, hk⟩ := hko
        obtain ⟨hk1, hkm, hk3⟩ := kidGo_some hk
        have HV : Hid (walkT T p name who = (qidOf k, 0)) := by
          show _ = _
          unfold walkT; rw [HL.out]
          show (if _ then _ else if _ then _ else _ : Qi × Int) = _
          rw [if_neg (fun x => x he), if_neg hdd, hk]; rfl
        have hK := pkid_any H4.out HWF.out n HNm.out name
        have e2 : kidV T am n name = .pointer (some ⟨am k.path, 0, none⟩) := by unfold kidV; rw [hk]
        rw [e2] at hK
        have hrow : ∀ U, Mod (fun _ => False) W4 U → U.rangeAt (am k.path) 2 (qiC (qidOf k)) := fun U hU => pn_qid ((H4.out.mod0 hU).node k hkm)
        have hql := qi_len (qidOf k)
        unfold ptr at c0 c4
        have HR := Lib.hid hrow
        clear he hdd hk hk1 hkm hk3 e2 hrow
        go_wp2_with fail
        refine hK.mono ?_
        rintro e W5 ⟨rfl, m5⟩
        have HZ5 : Hid (W5.heap[w.heap.size + 1 + 1 + 1]? = some (qiO Qi.zero)) := (m5.block _ (lt_of HZ4.out) (fun x => x)).trans HZ4.out
        have M5 := Lib.hid (M4.out.trans m5)
        have hrow := HR.out _ m5
        clear hK c0 c4 c5 c1'
        go_wp2_with (first | refine wpList_load_mid rfl 35 (.tmp 61) rfl (am k.path) 2 rfl (qiC (qidOf k)) _ hrow Tryz.underlying35 rfl (by kernel_rfl) ?_ | (refine wpl_store_row rfl 35 (.tmp 8) (.tmp 62) rfl rfl (w.heap.size + 1 + 1 + 1) (qiC (qidOf k)) rfl rfl 35 _ HZ5.out rfl (qi_one _) (by kernel_rfl) ?_; intro V9 hv9 mv9))
        have MV : Hid (Mod (fun _ => False) w V9) := M5.out.trans' mv9 fun k hk e => by omega
        refine bodyPost_ret (results_cell2 rfl _ _ V9 (w.heap.size + 1 + 1 + 1) (qiC (qidOf k)) _ rfl (qi_rng hv9) Tryz.underlying35 rfl (by kernel_rfl)) rfl ⟨by rw [HV.out]; rfl, MV.out⟩
    · have t3 : (walkE T n name who != 0) = true := by simp [he]
      have HV := Lib.hid (walkE_err HL.out he)
      clear he
      go_upto_region 7 with (fail)
      refine wp_region_lit ?_
      iterate 2
        refine wpList_plain rfl fun K hK => ?_
        go_simp
        refine hK _ _ ?_
        clear hK K
      refine wpl_store_row rfl 35 (.tmp 8) (.tmp 38) rfl rfl (w.heap.size + 1 + 1 + 1) (qiC Qi.zero) rfl rfl 35 _ HZ4.out rfl (qi_one _) (by kernel_rfl) ?_
      intro V9 hv9 mv9
      refine wpList_plain rfl fun K hK => ?_
      go_simp
      refine hK _ _ ?_
      clear hK K
      refine wpList_nil ?_
      have MV : Hid (Mod (fun _ => False) w V9) := (M4.out).trans' mv9 fun k hk e => by omega
      go_wp2
      refine bodyPost_ret (results_cell2 rfl _ _ V9 (w.heap.size + 1 + 1 + 1) (qiC Qi.zero) _ rfl (qi_rng hv9) Tryz.underlying35 rfl (by kernel_rfl)) rfl ⟨by rw [HV.out]; rfl, MV.out⟩
end Go.Proofs.YtkcnbbjmkkaolaaGreatDoor
namespace Go.Proofs.YtkcnbbjmkkaolaaGreatDoor
open Go.RowKit

theorem pO1 {w : World} {Bm m : Nat} (hm : BoxA w Bm (.int .u8 m) 5) (hl : m < 256) : Calls Tryz.prog 72 #[ptr Bm] w fun e w' => e = .returned (.bool (!modeB m)) ∧ w = w' := by
  have c0 := hm.cell
  have hd := mmode_any m w hl
  clear hm
  unfold ptr at *
  go_enter Tryz.func72, Tryz.ntmps72
  go_wp2_with fail
  refine hd.mono ?_
  rintro e w1 ⟨rfl, rfl⟩
  go_wp2
  go_ret
  exact ⟨rfl, rfl⟩
theorem pO2 {w : World} {Bn Bm a m : Nat} {n : Nd} {vk : Value} (hb : BoxA w Bn (ptr a) 75) (hm : BoxA w Bm (.int .u8 m) 5) (ha : w.heap[a]? = some (pnO n vk)) : Calls Tryz.prog 73 #[ptr Bn, ptr Bm] w fun e w' => e = .returned (.bool (n.dir && decide (m ≠ 0))) ∧ w = w' := by
  have c0 := hb.cell
  have c1 := hm.cell
  have hd := pdir_any a n vk w ha
  have HE : Hid (decide (m ≠ 0) = ((m : Int) != 0)) := by show _ = _; rw [Bool.eq_iff_iff]; simp
  clear hb ha hm
  unfold ptr at *
  cases hx : n.dir with
  | true =>
    rw [hx] at hd
    go_enter Tryz.func73, Tryz.ntmps73
    go_wp2_with fail
    refine hd.mono ?_
    rintro e w1 ⟨rfl, rfl⟩
    go_wp2
    go_ret
    exact ⟨by rw [HE.out]; rfl, rfl⟩
  | false =>
    rw [hx] at hd
    go_enter Tryz.func73, Tryz.ntmps73
    go_wp2_with fail
    refine hd.mono ?_
    rintro e w1 ⟨rfl, rfl⟩
    go_wp2
    go_ret
    exact ⟨rfl, rfl⟩
def needsO : Obj := .cells #[.int .u32 4, .int .u32 2, .int .u32 6, .int .u32 1] 104 (0, 0)
theorem needs_at {w : World} {B m : Nat} (h : w.heap[B]? = some needsO) (hm : m < 256) : w.cell? ⟨B, m &&& 3, none⟩ = some (.int .u32 (needOf m)) := by
  rw [cell_of h]
  have h1 : m &&& 3 = 0 ∨ m &&& 3 = 1 ∨ m &&& 3 = 2 ∨ m &&& 3 = 3 := by
    have : m &&& 3 ≤ 3 := Nat.and_le_right
    omega
  have h2 := need_tab ⟨m, hm⟩
  simp only at h2
  rw [h2]
  rcases h1 with e | e | e | e <;> rw [e] <;> rfl
set_option maxRecDepth 100000 in
set_option maxHeartbeats 2000000 in
theorem pO3 {w : World} {Bn Bw Bs Bm Bc a m : Nat} {n : Nd} {vk : Value} {who : ByteArray} {cuts : Bool} (hb : BoxA w Bn (ptr a) 75) (hw : BoxA w Bw (.string who) 9) (hs : w.heap[Bs]? = some needsO) (hm : BoxA w Bm (.int .u8 m) 5) (hc : BoxA w Bc (.bool cuts) 4) (ha : w.heap[a]? = some (pnO n vk)) (hp : n.perm < 512) (hl : m < 256) :
    Calls Tryz.prog 74 #[ptr Bn, ptr Bw, ptr Bs, ptr Bm, ptr Bc] w fun e w' => e = .returned (.bool (!mayB n who (needOf m) || (cuts && !mayB n who 2))) ∧ Mod (fun _ => False) w w' := by
  have c0 := hb.cell
  have c1 := hw.cell
  have c2 := hm.cell
  have c4 := hc.cell
  have c5 := needs_at hs hl
  have z : bits .and .u8 (m : Int) 3 = ((m &&& 3 : Nat) : Int) := u8_and_nat m 3 hl (by decide)
  have hq4 : m &&& 3 < 4 := Nat.lt_succ_of_le Nat.and_le_right
  have hn8 : needOf m < 8 := by unfold needOf; repeat' split <;> try decide
  have hA : ∀ U, Mod (fun _ => False) w U → U.heap[a]? = some (pnO n vk) := fun U hU => (hU.block a (lt_of ha) (fun x => x)).trans ha
  have hM : ∀ U, Mod (fun _ => False) w U → Calls Tryz.prog 56 #[.pointer (some ⟨a, 0, none⟩), .string who, .int .u32 (needOf m)] U fun e w' => e = .returned (.bool (mayB n who (needOf m))) ∧ U = w' := fun U hU => pmay_any a n vk who (needOf m) U (hA U hU) hn8 hp
  have hM2 : ∀ U, Mod (fun _ => False) w U → Calls Tryz.prog 56 #[.pointer (some ⟨a, 0, none⟩), .string who, .int .u32 2] U fun e w' => e = .returned (.bool (mayB n who 2)) ∧ U = w' := fun U hU => pmay_any a n vk who 2 U (hA U hU) (by decide) hp
  generalize m &&& 3 = q at *
  generalize needOf m = nd at *
  have q1 : (0 : Int) ≤ (q : Int) := by omega
  have q2 : (q : Int) < 4 := by omega
  clear hb hw hs hm hc ha hA hl hn8 hq4
  unfold ptr at *
  generalize mayB n who 2 = b2 at *
  generalize mayB n who nd = b1 at *
  cases b1 with
  | false =>
    go_enter Tryz.func74, Tryz.ntmps74
    go_upto_region 1 with (fail)
    refine wp_region_held_drew (S := fun w' => Hid (Mod (fun _ => False) w w')) (by kernel_rfl) (Lib.hid (Mod.refl (fun _ => False) w).drew) (fun hHeld => ?_)
    refine hT 0 rfl (fun wH hSw => by have cH := keepN hSw.out c0; clear hSw; go_simp; all_goals with_reducible rfl) ?_
    try simp only [gA, gB, gC, Act.put, sA, sB, sC]
    refine hT 1 rfl (fun wH hSw => by have cH := keepN hSw.out c1; clear hSw; go_simp; all_goals with_reducible rfl) ?_
    try simp only [gA, gB, gC, Act.put, sA, sB, sC]
    refine hT 2 rfl (fun wH hSw => by have cH := keepN hSw.out c2; clear hSw; go_simp; all_goals with_reducible rfl) ?_
    try simp only [gA, gB, gC, Act.put, sA, sB, sC]
    refine hT 3 rfl (fun _ _ => by go_simp; all_goals with_reducible rfl) ?_
    try simp only [gA, gB, gC, Act.put, sA, sB, sC]
    refine hT 4 rfl (fun _ _ => by go_simp; all_goals with_reducible rfl) ?_
    try simp only [gA, gB, gC, Act.put, sA, sB, sC]
    refine hT 5 rfl (fun wH hSw => by have cH := keepN hSw.out c5; clear hSw; go_simp; all_goals with_reducible rfl) ?_
    try simp only [gA, gB, gC, Act.put, sA, sB, sC]
    refine hR1 6 rfl fun K hK => ?_
    go_simp
    refine (hM _ hHeld.out).mono ?_
    rintro e w4 ⟨rfl, rfl⟩
    refine hK.out _ _ (Lib.hid (hHeld.out)) ?_; clear hK K hHeld; intro hHeld
    try simp only [gA, gB, gC, Act.put, sA, sB, sC]
    refine hT 7 rfl (fun _ _ => by go_simp; all_goals with_reducible rfl) ?_
    try simp only [gA, gB, gC, Act.put, sA, sB, sC]
    refine hT 8 rfl (fun _ _ => by go_simp; all_goals with_reducible rfl) ?_
    try simp only [gA, gB, gC, Act.put, sA, sB, sC]
    refine hSk 9 rfl ?_
    try simp only [gA, gB, gC, Act.put, sA, sB, sC]
    refine hSk 10 rfl ?_
    try simp only [gA, gB, gC, Act.put, sA, sB, sC]
    refine hSk 11 rfl ?_
    try simp only [gA, gB, gC, Act.put, sA, sB, sC]
    refine hSk 12 rfl ?_
    try simp only [gA, gB, gC, Act.put, sA, sB, sC]
    refine hSk 13 rfl ?_
    try simp only [gA, gB, gC, Act.put, sA, sB, sC]
    refine hSk 14 rfl ?_
    try simp only [gA, gB, gC, Act.put, sA, sB, sC]
    refine hSk 15 rfl ?_
    try simp only [gA, gB, gC, Act.put, sA, sB, sC]
    refine hT 16 rfl (fun _ _ => by go_simp; all_goals with_reducible rfl) ?_
    try simp only [gA, gB, gC, Act.put, sA, sB, sC]
    refine hT 17 rfl (fun _ _ => by go_simp; all_goals with_reducible rfl) ?_
    try simp only [gA, gB, gC, Act.put, sA, sB, sC]
    refine wpAnyH_done (by kernel_rfl) ?_ _
    go_wp2
    go_ret
    exact ⟨rfl, hHeld.out⟩
  | true =>
    cases cuts with
    | false =>
      go_enter Tryz.func74, Tryz.ntmps74
      go_upto_region 1 with (fail)
      refine wp_region_held_drew (S := fun w' => Hid (Mod (fun _ => False) w w')) (by kernel_rfl) (Lib.hid (Mod.refl (fun _ => False) w).drew) (fun hHeld => ?_)
      refine hT 0 rfl (fun wH hSw => by have cH := keepN hSw.out c0; clear hSw; go_simp; all_goals with_reducible rfl) ?_
      try simp only [gA, gB, gC, Act.put, sA, sB, sC]
      refine hT 1 rfl (fun wH hSw => by have cH := keepN hSw.out c1; clear hSw; go_simp; all_goals with_reducible rfl) ?_
      try simp only [gA, gB, gC, Act.put, sA, sB, sC]
      refine hT 2 rfl (fun wH hSw => by have cH := keepN hSw.out c2; clear hSw; go_simp; all_goals with_reducible rfl) ?_
      try simp only [gA, gB, gC, Act.put, sA, sB, sC]
      refine hT 3 rfl (fun _ _ => by go_simp; all_goals with_reducible rfl) ?_
      try simp only [gA, gB, gC, Act.put, sA, sB, sC]
      refine hT 4 rfl (fun _ _ => by go_simp; all_goals with_reducible rfl) ?_
      try simp only [gA, gB, gC, Act.put, sA, sB, sC]
      refine hT 5 rfl (fun wH hSw => by have cH := keepN hSw.out c5; clear hSw; go_simp; all_goals with_reducible rfl) ?_
      try simp only [gA, gB, gC, Act.put, sA, sB, sC]
      refine hR1 6 rfl fun K hK => ?_
      go_simp
      refine (hM _ hHeld.out).mono ?_
      rintro e w4 ⟨rfl, rfl⟩
      refine hK.out _ _ (Lib.hid (hHeld.out)) ?_; clear hK K hHeld; intro hHeld
      try simp only [gA, gB, gC, Act.put, sA, sB, sC]
      refine hT 7 rfl (fun _ _ => by go_simp; all_goals with_reducible rfl) ?_
      try simp only [gA, gB, gC, Act.put, sA, sB, sC]
      refine hT 8 rfl (fun _ _ => by go_simp; all_goals with_reducible rfl) ?_
      try simp only [gA, gB, gC, Act.put, sA, sB, sC]
      refine hT 9 rfl (fun wH hSw => by have cH := keepN hSw.out c4; clear hSw; go_simp; all_goals with_reducible rfl) ?_
      try simp only [gA, gB, gC, Act.put, sA, sB, sC]
      refine hT 10 rfl (fun _ _ => by go_simp; all_goals with_reducible rfl) ?_
      try simp only [gA, gB, gC, Act.put, sA, sB, sC]
      refine hSk 11 rfl ?_
      try simp only [gA, gB, gC, Act.put, sA, sB, sC]
      refine hSk 12 rfl ?_
      try simp only [gA, gB, gC, Act.put, sA, sB, sC]
      refine hSk 13 rfl ?_
      try simp only [gA, gB, gC, Act.put, sA, sB, sC]
      refine hSk 14 rfl ?_
      try simp only [gA, gB, gC, Act.put, sA, sB, sC]
      refine hT 15 rfl (fun _ _ => by go_simp; all_goals with_reducible rfl) ?_
      try simp only [gA, gB, gC, Act.put, sA, sB, sC]
      refine hT 16 rfl (fun _ _ => by go_simp; all_goals with_reducible rfl) ?_
      try simp only [gA, gB, gC, Act.put, sA, sB, sC]
      refine hT 17 rfl (fun _ _ => by go_simp; all_goals with_reducible rfl) ?_
      try simp only [gA, gB, gC, Act.put, sA, sB, sC]
      refine wpAnyH_done (by kernel_rfl) ?_ _
      go_wp2
      go_ret
      exact ⟨rfl, hHeld.out⟩
    | true =>
      go_enter Tryz.func74, Tryz.ntmps74
      go_upto_region 1 with (fail)
      refine wp_region_held_drew (S := fun w' => Hid (Mod (fun _ => False) w w')) (by kernel_rfl) (Lib.hid (Mod.refl (fun _ => False) w).drew) (fun hHeld => ?_)
      refine hT 0 rfl (fun wH hSw => by have cH := keepN hSw.out c0; clear hSw; go_simp; all_goals with_reducible rfl) ?_
      try simp only [gA, gB, gC, Act.put, sA, sB, sC]
      refine hT 1 rfl (fun wH hSw => by have cH := keepN hSw.out c1; clear hSw; go_simp; all_goals with_reducible rfl) ?_
      try simp only [gA, gB, gC, Act.put, sA, sB, sC]
      refine hT 2 rfl (fun wH hSw => by have cH := keepN hSw.out c2; clear hSw; go_simp; all_goals with_reducible rfl) ?_
      try simp only [gA, gB, gC, Act.put, sA, sB, sC]
      refine hT 3 rfl (fun _ _ => by go_simp; all_goals with_reducible rfl) ?_
      try simp only [gA, gB, gC, Act.put, sA, sB, sC]
      refine hT 4 rfl (fun _ _ => by go_simp; all_goals with_reducible rfl) ?_
      try simp only [gA, gB, gC, Act.put, sA, sB, sC]
      refine hT 5 rfl (fun wH hSw => by have cH := keepN hSw.out c5; clear hSw; go_simp; all_goals with_reducible rfl) ?_
      try simp only [gA, gB, gC, Act.put, sA, sB, sC]
      refine hR1 6 rfl fun K hK => ?_
      go_simp
      refine (hM _ hHeld.out).mono ?_
      rintro e w4 ⟨rfl, rfl⟩
      refine hK.out _ _ (Lib.hid (hHeld.out)) ?_; clear hK K hHeld; intro hHeld
      try simp only [gA, gB, gC, Act.put, sA, sB, sC]
      refine hT 7 rfl (fun _ _ => by go_simp; all_goals with_reducible rfl) ?_
      try simp only [gA, gB, gC, Act.put, sA, sB, sC]
      refine hT 8 rfl (fun _ _ => by go_simp; all_goals with_reducible rfl) ?_
      try simp only [gA, gB, gC, Act.put, sA, sB, sC]
      refine hT 9 rfl (fun wH hSw => by have cH := keepN hSw.out c4; clear hSw; go_simp; all_goals with_reducible rfl) ?_
      try simp only [gA, gB, gC, Act.put, sA, sB, sC]
      refine hT 10 rfl (fun _ _ => by go_simp; all_goals with_reducible rfl) ?_
      try simp only [gA, gB, gC, Act.put, sA, sB, sC]
      refine hT 11 rfl (fun wH hSw => by have cH := keepN hSw.out c0; clear hSw; go_simp; all_goals with_reducible rfl) ?_
      try simp only [gA, gB, gC, Act.put, sA, sB, sC]
      refine hT 12 rfl (fun wH hSw => by have cH := keepN hSw.out c1; clear hSw; go_simp; all_goals with_reducible rfl) ?_
      try simp only [gA, gB, gC, Act.put, sA, sB, sC]
      refine hR1 13 rfl fun K hK => ?_
      refine Eq.mpr (if_pos ?hwant) ?_
      case hwant => rfl
      go_simp
      refine (hM2 _ hHeld.out).mono ?_
      rintro e w4 ⟨rfl, rfl⟩
      refine hK.out _ _ (Lib.hid (hHeld.out)) ?_; clear hK K hHeld; intro hHeld
      try simp only [gA, gB, gC, Act.put, sA, sB, sC]
      refine hT 14 rfl (fun _ _ => by go_simp; all_goals with_reducible rfl) ?_
      try simp only [gA, gB, gC, Act.put, sA, sB, sC]
      refine hT 15 rfl (fun _ _ => by go_simp; all_goals with_reducible rfl) ?_
      try simp only [gA, gB, gC, Act.put, sA, sB, sC]
      refine hT 16 rfl (fun _ _ => by go_simp; all_goals with_reducible rfl) ?_
      try simp only [gA, gB, gC, Act.put, sA, sB, sC]
      refine hT 17 rfl (fun _ _ => by go_simp; all_goals with_reducible rfl) ?_
      try simp only [gA, gB, gC, Act.put, sA, sB, sC]
      refine wpAnyH_done (by kernel_rfl) ?_ _
      go_wp2
      go_ret
      exact ⟨rfl, hHeld.out⟩
section
variable {w : World} {ρ : Nat → Role} {b mb cnt : Nat} {T : Tr} {am : Nat → Nat} {vk : Nat → Value}
/-- the parent's node, by the map -/
theorem par_look (h : PTreeP w ρ b mb cnt T am vk) (hwf : WF T) {n d : Nd} (hn : n ∈ T.L) (hd : look T.L n.parent = some d) : ∀ U, Mod (fun _ => False) w U → (Instr.lookup 79 (.map (some mb)) (.int .u64 n.parent) false).run Tryz.prog U = .ok (.pointer (some ⟨am d.path, 0, none⟩)) U := fun U hU => by
  have := mapN_at (h.mod0 hU).map n.parent (hwf.ok n hn).parent
  rw [this]
  unfold ptrV; rw [hd, (look_some hd).2]
set_option maxRecDepth 100000 in
set_option maxHeartbeats 2000000 in
theorem pO4 (h : PTreeP w ρ b mb cnt T am vk) (hwf : WF T) {Bm Bt Bn Bw m : Nat} {n d : Nd} {who : ByteArray} (hn : n ∈ T.L) (hd : look T.L n.parent = some d) (hm : BoxA w Bm (.int .u8 m) 5) (ht : BoxA w Bt (ptr b) 26) (hb : BoxA w Bn (ptr (am n.path)) 75) (hw : BoxA w Bw (.string who) 9) (hl : m < 256) :
    Calls Tryz.prog 75 #[ptr Bm, ptr Bt, ptr Bn, ptr Bw] w fun e w' => e = .returned (.bool (decide (m &&& 64 ≠ 0) && !mayB d who 2)) ∧ Mod (fun _ => False) w w' := by
  have c0 := hm.cell
  have c1 := ht.cell
  have c2 := hb.cell
  have c3 := hw.cell
  have c4 := h.c0
  have c5 : w.cell? ⟨am n.path, 13, none⟩ = some (.int .u64 n.parent) := (cell_of (h.node n hn) 13).trans rfl
  have hlk := par_look h hwf hn hd
  have hdm := (look_some hd).1
  have hM : ∀ U, Mod (fun _ => False) w U → Calls Tryz.prog 56 #[.pointer (some ⟨am d.path, 0, none⟩), .string who, .int .u32 2] U fun e w' => e = .returned (.bool (mayB d who 2)) ∧ U = w' := fun U hU => pmay_any (am d.path) d (vk d.path) who 2 U ((h.mod0 hU).node d hdm) (by decide) (hwf.ok d hdm).perm
  have z : bits .and .u8 (m : Int) 64 = ((m &&& 64 : Nat) : Int) := u8_and_nat m 64 hl (by decide)
  have HE : Hid (decide (m &&& 64 ≠ 0) = (((m &&& 64 : Nat) : Int) != 0)) := by show _ = _; rw [Bool.eq_iff_iff]; simp
  generalize m &&& 64 = q at *
  generalize mayB d who 2 = b2 at *
  clear hm ht hb hw hl hdm hd hn h hwf
  unfold ptr at *
  by_cases hq : q = 0
  · have t1 : ((q : Int) != 0) = false := by simp [hq]
    have HE2 : Hid (decide (q ≠ 0) = false) := HE.out.trans t1
    clear hq HE
    go_enter Tryz.func75, Tryz.ntmps75
    go_upto_region 1 with (fail)
    refine wp_region_held_drew (S := fun w' => Hid (Mod (fun _ => False) w w')) (by kernel_rfl) (Lib.hid (Mod.refl (fun _ => False) w).drew) (fun hHeld => ?_)
    refine hT 0 rfl (fun wH hSw => by have cH := keepN hSw.out c0; clear hSw; go_simp; all_goals with_reducible rfl) ?_
    try simp only [gA, gB, gC, Act.put, sA, sB, sC]
    refine hT 1 rfl (fun _ _ => by go_simp; all_goals with_reducible rfl) ?_
    try simp only [gA, gB, gC, Act.put, sA, sB, sC]
    refine hT 2 rfl (fun _ _ => by go_simp; all_goals with_reducible rfl) ?_
    try simp only [gA, gB, gC, Act.put, sA, sB, sC]
    refine hT 3 rfl (fun _ _ => by go_simp; all_goals with_reducible rfl) ?_
    try simp only [gA, gB, gC, Act.put, sA, sB, sC]
    refine hSk 4 rfl ?_
    try simp only [gA, gB, gC, Act.put, sA, sB, sC]
    refine hSk 5 rfl ?_
    try simp only [gA, gB, gC, Act.put, sA, sB, sC]
    refine hSk 6 rfl ?_
    try simp only [gA, gB, gC, Act.put, sA, sB, sC]
    refine hSk 7 rfl ?_
    try simp only [gA, gB, gC, Act.put, sA, sB, sC]
    refine hSk 8 rfl ?_
    try simp only [gA, gB, gC, Act.put, sA, sB, sC]
    refine hSk 9 rfl ?_
    try simp only [gA, gB, gC, Act.put, sA, sB, sC]
    refine hSk 10 rfl ?_
    try simp only [gA, gB, gC, Act.put, sA, sB, sC]
    refine hSk 11 rfl ?_
    try simp only [gA, gB, gC, Act.put, sA, sB, sC]
    refine hSk 12 rfl ?_
    try simp only [gA, gB, gC, Act.put, sA, sB, sC]
    refine hSk 13 rfl ?_
    try simp only [gA, gB, gC, Act.put, sA, sB, sC]
    refine hSk 14 rfl ?_
    try simp only [gA, gB, gC, Act.put, sA, sB, sC]
    refine hSk 15 rfl ?_
    try simp only [gA, gB, gC, Act.put, sA, sB, sC]
    refine hT 16 rfl (fun _ _ => by go_simp; all_goals with_reducible rfl) ?_
    try simp only [gA, gB, gC, Act.put, sA, sB, sC]
    refine hT 17 rfl (fun _ _ => by go_simp; all_goals with_reducible rfl) ?_
    try simp only [gA, gB, gC, Act.put, sA, sB, sC]
    refine wpAnyH_done (by kernel_rfl) ?_ _
    go_wp2
    go_ret
    exact ⟨by rw [HE2.out]; rfl, hHeld.out⟩
  · have t1 : ((q : Int) != 0) = true := by simp [hq]
    have HE2 : Hid (decide (q ≠ 0) = true) := HE.out.trans t1
    clear hq HE
    go_enter Tryz.func75, Tryz.ntmps75
    go_upto_region 1 with (fail)
    refine wp_region_held_drew (S := fun w' => Hid (Mod (fun _ => False) w w')) (by kernel_rfl) (Lib.hid (Mod.refl (fun _ => False) w).drew) (fun hHeld => ?_)
    refine hT 0 rfl (fun wH hSw => by have cH := keepN hSw.out c0; clear hSw; go_simp; all_goals with_reducible rfl) ?_
    try simp only [gA, gB, gC, Act.put, sA, sB, sC]
    refine hT 1 rfl (fun _ _ => by go_simp; all_goals with_reducible rfl) ?_
    try simp only [gA, gB, gC, Act.put, sA, sB, sC]
    refine hT 2 rfl (fun _ _ => by go_simp; all_goals with_reducible rfl) ?_
    try simp only [gA, gB, gC, Act.put, sA, sB, sC]
    refine hT 3 rfl (fun _ _ => by go_simp; all_goals with_reducible rfl) ?_
    try simp only [gA, gB, gC, Act.put, sA, sB, sC]
    refine hT 4 rfl (fun wH hSw => by have cH := keepN hSw.out c1; clear hSw; go_simp; all_goals with_reducible rfl) ?_
    try simp only [gA, gB, gC, Act.put, sA, sB, sC]
    refine hT 5 rfl (fun _ _ => by go_simp; all_goals with_reducible rfl) ?_
    try simp only [gA, gB, gC, Act.put, sA, sB, sC]
    refine hT 6 rfl (fun _ _ => by go_simp; all_goals with_reducible rfl) ?_
    try simp only [gA, gB, gC, Act.put, sA, sB, sC]
    refine hT 7 rfl (fun wH hSw => by have cH := keepN hSw.out c4; clear hSw; go_simp; all_goals with_reducible rfl) ?_
    try simp only [gA, gB, gC, Act.put, sA, sB, sC]
    refine hT 8 rfl (fun wH hSw => by have cH := keepN hSw.out c2; clear hSw; go_simp; all_goals with_reducible rfl) ?_
    try simp only [gA, gB, gC, Act.put, sA, sB, sC]
    refine hT 9 rfl (fun _ _ => by go_simp; all_goals with_reducible rfl) ?_
    try simp only [gA, gB, gC, Act.put, sA, sB, sC]
    refine hT 10 rfl (fun _ _ => by go_simp; all_goals with_reducible rfl) ?_
    try simp only [gA, gB, gC, Act.put, sA, sB, sC]
    refine hT 11 rfl (fun wH hSw => by have cH := keepN hSw.out c5; clear hSw; go_simp; all_goals with_reducible rfl) ?_
    try simp only [gA, gB, gC, Act.put, sA, sB, sC]
    refine hT 12 rfl (fun wH hSw => by have cH := hlk wH hSw.out; clear hSw; go_simp; all_goals with_reducible rfl) ?_
    try simp only [gA, gB, gC, Act.put, sA, sB, sC]
    refine hT 13 rfl (fun wH hSw => by have cH := keepN hSw.out c3; clear hSw; go_simp; all_goals with_reducible rfl) ?_
    try simp only [gA, gB, gC, Act.put, sA, sB, sC]
    refine hR1 14 rfl fun K hK => ?_
    refine Eq.mpr (if_pos ?hwant) ?_
    case hwant => rfl
    go_simp
    refine (hM _ hHeld.out).mono ?_
    rintro e w4 ⟨rfl, rfl⟩
    refine hK.out _ _ (Lib.hid (hHeld.out)) ?_; clear hK K hHeld; intro hHeld
    try simp only [gA, gB, gC, Act.put, sA, sB, sC]
    refine hT 15 rfl (fun _ _ => by go_simp; all_goals with_reducible rfl) ?_
    try simp only [gA, gB, gC, Act.put, sA, sB, sC]
    refine hT 16 rfl (fun _ _ => by go_simp; all_goals with_reducible rfl) ?_
    try simp only [gA, gB, gC, Act.put, sA, sB, sC]
    refine hT 17 rfl (fun _ _ => by go_simp; all_goals with_reducible rfl) ?_
    try simp only [gA, gB, gC, Act.put, sA, sB, sC]
    refine wpAnyH_done (by kernel_rfl) ?_ _
    go_wp2
    go_ret
    exact ⟨by rw [HE2.out]; rfl, hHeld.out⟩
end
end Go.Proofs.YtkcnbbjmkkaolaaGreatDoor
namespace Go.Proofs.YtkcnbbjmkkaolaaGreatDoor
open Go.RowKit

theorem firstE_cons (f : Nat) (c : Array Value) (e : Int) (x : Bool) (l : List Ask) : firstE (⟨f, c, e, x⟩ :: l) = if x = true then e else firstE l := rfl
theorem ite_iff {b c : Prop} [Decidable b] [Decidable c] {x y y' : Int} (h : b ↔ c) (hy : y = y') : (if b then x else y) = if c then x else y' := by
  by_cases hb : b
  · rw [if_pos hb, if_pos (h.1 hb)]
  · rw [if_neg hb, if_neg (fun x => hb (h.2 x)), hy]
theorem openE_first (T : Tr) (n d : Nd) (m : Nat) (who : ByteArray) (hp : parOf T.L n = d) (f1 f2 f3 f4 : Nat) (c1 c2 c3 c4 : Array Value) :
    firstE [⟨f1, c1, 186, !modeB m⟩, ⟨f2, c2, 181, n.dir && decide (m ≠ 0)⟩, ⟨f3, c3, 182, !mayB n who (needOf m) || (decide (m &&& 16 ≠ 0) && !mayB n who 2)⟩, ⟨f4, c4, 182, decide (m &&& 64 ≠ 0) && !mayB d who 2⟩] = openE T n m who := by
  unfold openE
  rw [hp]
  simp only [firstE_cons]
  exact ite_iff (by simp) (ite_iff (by simp) (ite_iff (by simp) (ite_iff (by simp) rfl)))
theorem openE_err {T : Tr} {n : Nd} {m : Nat} {who : ByteArray} {now : Nat} (hl : look T.L n.path = some n) (h : openE T n m who ≠ 0) : openT T n.path m who now = (T, Qi.zero, openE T n m who) := by
  unfold openT; rw [hl]; exact if_pos h
def POst (ρ : Nat → Role) (b mb cnt : Nat) (am : Nat → Nat) (vk : Nat → Value) (R : Tr × Qi × Int) (w : World) (e : Ending) (w' : World) : Prop :=
  e = .returned (.tuple #[.agg (qiC R.2.1).toArray, .int .i64 R.2.2]) ∧ PTreeP w' ρ b mb cnt R.1 am vk ∧ Mod (Foot ρ) w w'
set_option maxHeartbeats 4000000 in
set_option maxRecDepth 100000 in
theorem popen_any {w : World} {ρ : Nat → Role} {b mb cnt : Nat} {T : Tr} {am : Nat → Nat} {vk : Nat → Value} (h : PTreeP w ρ b mb cnt T am vk) (hwf : WF T) (p m : Nat) (who : ByteArray) (now : Nat) (hp : p < 18446744073709551616) (hm : m < 256) :
    Calls Tryz.prog 29 #[.pointer (some ⟨b, 0, none⟩), .int .u64 p, .int .u8 m, .string who, .int .u32 now] w fun e w' => POst ρ b mb cnt am vk (openT T p m who now) w e w' := by
  obtain ⟨W0, hW0⟩ : ∃ W0, (((w.alloc (.cells #[.pointer (some ⟨b, 0, none⟩)] 26)).alloc (.cells #[.int .u8 m] 5)).alloc (.cells #[.string who] 9)).alloc (.cells #[.int .u8 0, .int .u32 0, .int .u64 0] 35) = W0 := ⟨_, rfl⟩
  have hsz : W0.heap.size = w.heap.size + 4 := by subst hW0; simp
  have hb0 : BoxA W0 w.heap.size (ptr b) 26 := by subst hW0; exact alloc_keep (alloc_keep (alloc_keep (new_at _ _)))
  have hb1 : BoxA W0 (w.heap.size + 1) (.int .u8 m) 5 := by subst hW0; exact alloc_keep (alloc_keep (new_at' _ _ _ (by simp)))
  have hb2 : BoxA W0 (w.heap.size + 1 + 1) (.string who) 9 := by subst hW0; exact alloc_keep (new_at' _ _ _ (by simp))
  have hbz : W0.heap[w.heap.size + 1 + 1 + 1]? = some (qiO Qi.zero) := by subst hW0; exact new_at' _ _ _ (by simp)
  have M0 : Mod (fun _ => False) w W0 := by subst hW0; exact (((((Mod.refl _ w).alloc _).alloc _).alloc _).alloc _)
  have H0 := h.mod0 M0
  have hG := pget_any H0 p hp
  have c0 : W0.cell? ⟨w.heap.size, 0, none⟩ = some (.pointer (some ⟨b, 0, none⟩)) := hb0.cell
  cases hl : look T.L p with
  | none =>
    have e1 : ptrV T.L am p = .pointer none := by unfold ptrV; rw [hl]
    have HV : Hid (openT T p m who now = (T, Qi.zero, 180)) := by show _ = _; unfold openT; rw [hl]
    rw [e1, hl] at hG
    simp only [Option.isSome_none, Bool.false_eq_true, if_false] at hG
    obtain ⟨W1, hW1⟩ : ∃ W1, W0.alloc (.cells #[.pointer none] 75) = W1 := ⟨_, rfl⟩
    have hn1 : W1.heap[w.heap.size + 4]? = some (.cells #[.pointer none] 75 (0, 0)) := by subst hW1; exact new_at' _ _ _ hsz.symm
    have q1 : W1.cell? ⟨w.heap.size + 4, 0, none⟩ = some (.pointer none) := (cell_of hn1 0).trans rfl
    have q2 : W1.frozen? ⟨w.heap.size + 4, 0, none⟩ = false := free_of hn1 0
    have q3 : W1.setCell ⟨w.heap.size + 4, 0, none⟩ (.pointer none) = W1 := setCell_idR hn1 rfl
    have HZ : Hid (W1.heap[w.heap.size + 1 + 1 + 1]? = some (qiO Qi.zero)) := by subst hW1; exact alloc_keep hbz
    have M1 : Hid (Mod (fun _ => False) w W1) := by subst hW1; exact M0.alloc _
    have H := Lib.hid h
    clear hn1 hb0 hb1 hb2 hbz H0 h hwf e1 hl
    go_enter Tryz.func29, Tryz.ntmps29
    go_wp2_with fail
    clear hW0
    refine hG.mono ?_
    rintro e w1 ⟨rfl, rfl⟩
    go_upto_region 3 with (fail)
    clear hW1
    refine wp_region_lit ?_
    iterate 2
      refine wpList_plain rfl fun K hK => ?_
      go_simp
      refine hK _ _ ?_
      clear hK K
    refine wpl_store_row rfl 35 (.tmp 10) (.tmp 24) rfl rfl (w.heap.size + 1 + 1 + 1) (qiC Qi.zero) rfl rfl 35 _ HZ.out rfl (qi_one _) (by kernel_rfl) ?_
    intro V9 hv9 mv9
    refine wpList_plain rfl fun K hK => ?_
    go_simp
    refine hK _ _ ?_
    clear hK K
    refine wpList_nil ?_
    have MV : Hid (Mod (fun _ => False) w V9) := (M1.out).trans' mv9 fun k hk e => by omega
    have HTV := Lib.hid ((H.out).mod0 MV.out)
    go_wp2
    refine bodyPost_ret (results_cell2 rfl _ _ V9 (w.heap.size + 1 + 1 + 1) (qiC Qi.zero) _ rfl (qi_rng hv9) Tryz.underlying35 rfl (by kernel_rfl)) rfl ⟨by rw [HV.out]; rfl, by rw [HV.out]; exact HTV.out, MV.out.mono (fun _ _ x => x.elim)⟩
  | some n =>
    obtain ⟨hnm, hnp⟩ := look_some hl
    subst hnp
    have e1 : ptrV T.L am n.path = .pointer (some ⟨am n.path, 0, none⟩) := by unfold ptrV; rw [hl]
    rw [e1, hl] at hG
    simp only [Option.isSome_some, if_true] at hG
    obtain ⟨d, hd⟩ := hwf.par n hnm
    have hpd : parOf T.L n = d := by unfold parOf; rw [hd]; rfl
    obtain ⟨cu, hcu⟩ : ∃ cu, decide (m &&& 16 ≠ 0) = cu := ⟨_, rfl⟩
    have z16 : bits .and .u8 (m : Int) 16 = ((m &&& 16 : Nat) : Int) := u8_and_nat m 16 hm (by decide)
    have t2 : (((m &&& 16 : Nat) : Int) != 0) = cu := by rw [← hcu, Bool.eq_iff_iff]; simp
    have hfe := openE_first T n d m who hpd 72 73 74 75 #[ptr (w.heap.size + 1)] #[ptr (w.heap.size + 4), ptr (w.heap.size + 1)] #[ptr (w.heap.size + 4), ptr (w.heap.size + 1 + 1), ptr (w.heap.size + 5), ptr (w.heap.size + 1), ptr (w.heap.size + 6)] #[ptr (w.heap.size + 1), ptr w.heap.size, ptr (w.heap.size + 4), ptr (w.heap.size + 1 + 1)]
    rw [hcu] at hfe
    obtain ⟨W1, hW1⟩ : ∃ W1, W0.alloc (.cells #[.pointer (some ⟨am n.path, 0, none⟩)] 75) = W1 := ⟨_, rfl⟩
    have hsz1 : W1.heap.size = w.heap.size + 5 := by subst hW1; rw [World.size_alloc, hsz]
    have hn1 : BoxA W1 (w.heap.size + 4) (ptr (am n.path)) 75 := by subst hW1; exact new_at' _ _ _ hsz.symm
    have M1 : Mod (fun _ => False) W0 W1 := by subst hW1; exact (Mod.refl _ _).alloc _
    obtain ⟨W2, hW2⟩ : ∃ W2, W1.alloc (.cells #[.int .u32 4, .int .u32 2, .int .u32 6, .int .u32 1] 104) = W2 := ⟨_, rfl⟩
    have hsz2 : W2.heap.size = w.heap.size + 6 := by subst hW2; rw [World.size_alloc, hsz1]
    have hn2 : W2.heap[w.heap.size + 5]? = some needsO := by subst hW2; exact new_at' _ _ _ hsz1.symm
    have M2 : Mod (fun _ => False) W1 W2 := by subst hW2; exact (Mod.refl _ _).alloc _
    obtain ⟨W3, hW3⟩ : ∃ W3, W2.alloc (.cells #[.bool cu] 4) = W3 := ⟨_, rfl⟩
    have hsz3 : W3.heap.size = w.heap.size + 7 := by subst hW3; rw [World.size_alloc, hsz2]
    have hn3 : BoxA W3 (w.heap.size + 6) (.bool cu) 4 := by subst hW3; exact new_at' _ _ _ hsz2.symm
    have M3 : Mod (fun _ => False) W2 W3 := by subst hW3; exact (Mod.refl _ _).alloc _
    obtain ⟨W4, hW4⟩ : ∃ W4, W3.alloc (.cells #[.func (.func 72) #[] #[ptr (w.heap.size + 1)], .int .i64 186, .func (.func 73) #[] #[ptr (w.heap.size + 4), ptr (w.heap.size + 1)], .int .i64 181, .func (.func 74) #[] #[ptr (w.heap.size + 4), ptr (w.heap.size + 1 + 1), ptr (w.heap.size + 5), ptr (w.heap.size + 1), ptr (w.heap.size + 6)], .int .i64 182, .func (.func 75) #[] #[ptr (w.heap.size + 1), ptr w.heap.size, ptr (w.heap.size + 4), ptr (w.heap.size + 1 + 1)], .int .i64 182] 95) = W4 := ⟨_, rfl⟩
    have hask := new_at' W3 (.cells #[.func (.func 72) #[] #[ptr (w.heap.size + 1)], .int .i64 186, .func (.func 73) #[] #[ptr (w.heap.size + 4), ptr (w.heap.size + 1)], .int .i64 181, .func (.func 74) #[] #[ptr (w.heap.size + 4), ptr (w.heap.size + 1 + 1), ptr (w.heap.size + 5), ptr (w.heap.size + 1), ptr (w.heap.size + 6)], .int .i64 182, .func (.func 75) #[] #[ptr (w.heap.size + 1), ptr w.heap.size, ptr (w.heap.size + 4), ptr (w.heap.size + 1 + 1)], .int .i64 182] 95) _ hsz3.symm
    rw [hW4] at hask
    have M4 : Mod (fun _ => False) W3 W4 := by subst hW4; exact (Mod.refl _ _).alloc _
    have M34 := M3.trans M4
    have M24 := M2.trans M34
    have M14 := M1.trans M24
    have M := M0.trans M14
    have HT := h.mod0 M
    have hno := hwf.ok n hnm
    obtain ⟨l, hlq⟩ : ∃ l : List Ask, l = [⟨72, #[ptr (w.heap.size + 1)], 186, !modeB m⟩, ⟨73, #[ptr (w.heap.size + 4), ptr (w.heap.size + 1)], 181, n.dir && decide (m ≠ 0)⟩, ⟨74, #[ptr (w.heap.size + 4), ptr (w.heap.size + 1 + 1), ptr (w.heap.size + 5), ptr (w.heap.size + 1), ptr (w.heap.size + 6)], 182, !mayB n who (needOf m) || (cu && !mayB n who 2)⟩, ⟨75, #[ptr (w.heap.size + 1), ptr w.heap.size, ptr (w.heap.size + 4), ptr (w.heap.size + 1 + 1)], 182, decide (m &&& 64 ≠ 0) && !mayB d who 2⟩] := ⟨_, rfl⟩
    have hF := pfirst_any l (w.heap.size + 7) 4 W4 (by rw [hlq]; exact (by decide : 4 ≤ 1000)) (by rw [hlq]; exact Nat.le_refl 4)
      (fun j hj => by
        subst hlq
        have hj4 : j < 4 := hj
        rcases j with _ | _ | _ | _ | j
        · exact ⟨cell_of hask 0, cell_of hask 1⟩
        · exact ⟨cell_of hask 2, cell_of hask 3⟩
        · exact ⟨cell_of hask 4, cell_of hask 5⟩
        · exact ⟨cell_of hask 6, cell_of hask 7⟩
        · omega)
      (fun a ha => by
        subst hlq
        simp only [List.mem_cons, List.not_mem_nil, or_false] at ha
        rcases ha with rfl | rfl | rfl | rfl
        · exact enters_of Tryz.func72 (by kernel_rfl) rfl
        · exact enters_of Tryz.func73 (by kernel_rfl) rfl
        · exact enters_of Tryz.func74 (by kernel_rfl) rfl
        · exact enters_of Tryz.func75 (by kernel_rfl) rfl)
      (fun a ha U hU => by
        have HU := HT.mod0 hU
        have k0 := (hb0.mod M14).mod hU
        have k1 := (hb1.mod M14).mod hU
        have k2 := (hb2.mod M14).mod hU
        have k4 := (hn1.mod M24).mod hU
        have k5 := ((M34.trans hU).block _ (lt_of hn2) (fun x => x)).trans hn2
        have k6 := (hn3.mod M4).mod hU
        have kn := HU.node n hnm
        subst hlq
        simp only [List.mem_cons, List.not_mem_nil, or_false] at ha
        rcases ha with rfl | rfl | rfl | rfl
        · exact (pO1 k1 hm).mono fun e w' he => ⟨he.1, he.2 ▸ Mod.refl _ _⟩
        · exact (pO2 k4 k1 kn).mono fun e w' he => ⟨he.1, he.2 ▸ Mod.refl _ _⟩
        · exact pO3 k4 k2 k5 k1 k6 kn hno.perm hm
        · exact pO4 HU hwf hnm hd k1 k0 k4 k2 hm)
    rw [hlq, hfe] at hF
    have c1 : W2.cell? ⟨w.heap.size + 1, 0, none⟩ = some (.int .u8 m) := (hb1.mod (M1.trans M2)).cell
    have HZ4 : Hid (W4.heap[w.heap.size + 1 + 1 + 1]? = some (qiO Qi.zero)) := (M14.block _ (lt_of hbz) (fun x => x)).trans hbz
    have K0 := Lib.hid (hb0.mod M14)
    have K2 := Lib.hid (hb2.mod M14)
    have K4 := Lib.hid (hn1.mod M24)
    have K6 := Lib.hid (hn3.mod M4)
    have HM := Lib.hid M
    have HT := Lib.hid HT
    have Hh := Lib.hid h
    have HWF := Lib.hid hwf
    have HNm := Lib.hid hnm
    have HU := Lib.hid hcu
    have HL := Lib.hid hl
    clear hb0 hb1 hb2 hbz hn1 hn2 hn3 H0 h hask M0 M1 M2 M3 M4 M34 M24 M14 M hwf e1 hno hfe hcu hnm hl hd hpd
    clear hlq l
    unfold ptr at hW4
    go_enter Tryz.func29, Tryz.ntmps29
    go_wp2_with fail
    clear hW0
    refine hG.mono ?_
    rintro e w1 ⟨rfl, rfl⟩
    go_wp2_with fail
    clear hW1 hW2 hW3 hW4
    refine hF.mono ?_
    rintro e V ⟨rfl, mV⟩
    clear hF hG
    have HZ5 : Hid (V.heap[w.heap.size + 1 + 1 + 1]? = some (qiO Qi.zero)) := (mV.block _ (lt_of HZ4.out) (fun x => x)).trans HZ4.out
    have MV0 : Hid (Mod (fun _ => False) w V) := HM.out.trans mV
    have c2 : V.cell? ⟨w.heap.size + 1 + 1, 0, none⟩ = some (.string who) := (K2.out.mod mV).cell
    have c4 : V.cell? ⟨w.heap.size + 4, 0, none⟩ = some (ptr (am n.path)) := (K4.out.mod mV).cell
    have c6 : V.cell? ⟨w.heap.size + 6, 0, none⟩ = some (.bool cu) := (K6.out.mod mV).cell
    have HT5 := Lib.hid (HT.out.mod0 mV)
    have B2 := Lib.hid (K2.out.mod mV)
    have B4 := Lib.hid (K4.out.mod mV)
    clear HT K0 K2 K4 K6 HZ4 HM mV c1 c0
    by_cases he : openE T n m who = 0
    · have t3 : (openE T n m who != 0) = false := by simp [he]
      unfold ptr at c4
      have c14 : V.cell? ⟨am n.path, 14, none⟩ = some (.string n.data) := (cell_of (HT5.out.node n HNm.out) 14).trans rfl
      obtain ⟨em, hem⟩ : ∃ em, decide (n.data.size = 0) = em := ⟨_, rfl⟩
      have t4 : n.data.toList.isEmpty = em := by rw [empty_beq, hem]
      have HS : Hid (openT T n.path m who now = if m &&& 16 ≠ 0 ∧ n.data.size ≠ 0 then ({ T with L := updN T.L n.path fun n => Nd.touch { n with data := ByteArray.empty } who now }, qidOf (Nd.touch { n with data := ByteArray.empty } who now), 0) else (T, qidOf n, 0)) := by
        show _ = _
        unfold openT; rw [HL.out]
        exact if_neg (fun x => x he)
      clear he
      have hal : am n.path < w.heap.size := lt_of (Hh.out.node n HNm.out)
      have hN := HT5.out.node n HNm.out
      have hql := qi_len (qidOf n)
      cases hb : (cu && !em) with
      | true =>
        have hb' := hb
        rw [Bool.and_eq_true] at hb'
        obtain ⟨hb1, hb2⟩ := hb'
        subst hb1
        have hb2 : em = false := by simpa using hb2
        subst hb2
        have HV : Hid (openT T n.path m who now = ({ T with L := updN T.L n.path fun n => Nd.touch { n with data := ByteArray.empty } who now }, qidOf (Nd.touch { n with data := ByteArray.empty } who now), 0)) := HS.out.trans (if_pos ⟨of_decide_eq_true HU.out, of_decide_eq_false hem⟩)
        obtain ⟨n', hn'⟩ : ∃ n' : Nd, { n with data := ByteArray.empty } = n' := ⟨_, rfl⟩
        obtain ⟨V1, hV1⟩ : ∃ V1, V.setCell ⟨am n.path, 14, none⟩ (.string { data := #[] }) = V1 := ⟨_, rfl⟩
        have f14 : V.frozen? ⟨am n.path, 14, none⟩ = false := free_of hN 14
        have hN1 : V1.heap[am n.path]? = some (pnO n' (vk n.path)) := by rw [← hV1, ← hn']; exact heap_set hN 14 _
        have m1 : Mod (· = am n.path) V V1 := by rw [← hV1]; exact Mod.set1 V (am n.path) 14 _
        have hTo := ptouch_any (am n.path) n' (vk n.path) who now V1 hN1 (by rw [← hn']; exact (HWF.out.ok n HNm.out).ver)
        have d2 := keepX m1 (by omega) c2
        have d4 := keepX m1 (by omega) c4
        have M1 := Lib.hid m1
        have HN' := Lib.hid hn'
        clear hN1 m1 hem hb HS hn'
        go_wp2_with fail
        clear hV1
        refine hTo.mono ?_
        rintro e V2 ⟨rfl, hN2, m2⟩
        have d4 := keepX m2 (by omega) d4
        have M2 := Lib.hid m2
        have HZ2 : Hid (V2.heap[w.heap.size + 1 + 1 + 1]? = some (qiO Qi.zero)) := ((M1.out.trans m2).block _ (lt_of HZ5.out) (by omega)).trans HZ5.out
        have hrow := pn_qid hN2
        have hql := qi_len (qidOf (n'.touch who now))
        have HN2 := Lib.hid hN2
        obtain ⟨HP, HM⟩ := HT5.out.setN HWF.out.rise (f := fun n => Nd.touch { n with data := ByteArray.empty } who now) (fun _ => rfl) (fun _ => rfl) HL.out (M1.out.trans m2) (by rw [HN'.out]; exact hN2)
        have HP := Lib.hid HP
        have HM := Lib.hid HM
        clear hTo c2 c4 c6 c14 d2 hN2 m2
        go_wp2_with (first | refine wpList_load_mid rfl 35 (.tmp 62) rfl (am n.path) 2 rfl (qiC (qidOf (n'.touch who now))) _ hrow Tryz.underlying35 rfl (by kernel_rfl) ?_ | (refine wpl_store_row rfl 35 (.tmp 10) (.tmp 63) rfl rfl (w.heap.size + 1 + 1 + 1) (qiC (qidOf (n'.touch who now))) rfl rfl 35 _ HZ2.out rfl (qi_one _) (by kernel_rfl) ?_; intro V9 hv9 mv9))
        have hlt : ∀ k, ρ k ≠ .none → k < w.heap.size := Hh.out.lt
        have HP9 := Lib.hid (HP.out.mod mv9 fun k e => by
          cases hr : ρ k with
          | none => rfl
          | _ => exfalso; have := hlt k (by rw [hr]; exact fun x => by cases x); omega)
        have HM9 : Hid (Mod (Foot ρ) w V9) := ((MV0.out.mono fun _ _ x => x.elim).trans HM.out).trans' mv9 fun k hk e => by omega
        clear hlt
        refine bodyPost_ret (results_cell2 rfl _ _ V9 (w.heap.size + 1 + 1 + 1) (qiC (qidOf (n'.touch who now))) _ rfl (qi_rng hv9) Tryz.underlying35 rfl (by kernel_rfl)) rfl ⟨by rw [HV.out, HN'.out]; rfl, by rw [HV.out]; exact HP9.out, HM9.out⟩
      | false =>
        have HV : Hid (openT T n.path m who now = (T, qidOf n, 0)) := HS.out.trans (if_neg (fun x => by
          have h1 : cu = true := by rw [← HU.out]; exact decide_eq_true x.1
          have h2 : em = false := by rw [← hem]; exact decide_eq_false x.2
          rw [h1, h2] at hb
          cases hb))
        have hrow := pn_qid hN
        clear hem HS hN
        cases cu with
        | true =>
          cases em with
          | false => cases hb
          | true =>
            clear hb
            go_wp2_with (first | refine wpList_load_mid rfl 35 (.tmp 62) rfl (am n.path) 2 rfl (qiC (qidOf n)) _ hrow Tryz.underlying35 rfl (by kernel_rfl) ?_ | (refine wpl_store_row rfl 35 (.tmp 10) (.tmp 63) rfl rfl (w.heap.size + 1 + 1 + 1) (qiC (qidOf n)) rfl rfl 35 _ HZ5.out rfl (qi_one _) (by kernel_rfl) ?_; intro V9 hv9 mv9))
            have MV : Hid (Mod (fun _ => False) w V9) := MV0.out.trans' mv9 fun k hk e => by omega
            have HTV := Lib.hid (Hh.out.mod0 MV.out)
            refine bodyPost_ret (results_cell2 rfl _ _ V9 (w.heap.size + 1 + 1 + 1) (qiC (qidOf n)) _ rfl (qi_rng hv9) Tryz.underlying35 rfl (by kernel_rfl)) rfl ⟨by rw [HV.out]; rfl, by rw [HV.out]; exact HTV.out, MV.out.mono (fun _ _ x => x.elim)⟩
        | false =>
          clear hb c14
          go_wp2_with (first | refine wpList_load_mid rfl 35 (.tmp 62) rfl (am n.path) 2 rfl (qiC (qidOf n)) _ hrow Tryz.underlying35 rfl (by kernel_rfl) ?_ | (refine wpl_store_row rfl 35 (.tmp 10) (.tmp 63) rfl rfl (w.heap.size + 1 + 1 + 1) (qiC (qidOf n)) rfl rfl 35 _ HZ5.out rfl (qi_one _) (by kernel_rfl) ?_; intro V9 hv9 mv9))
          have MV : Hid (Mod (fun _ => False) w V9) := MV0.out.trans' mv9 fun k hk e => by omega
          have HTV := Lib.hid (Hh.out.mod0 MV.out)
          refine bodyPost_ret (results_cell2 rfl _ _ V9 (w.heap.size + 1 + 1 + 1) (qiC (qidOf n)) _ rfl (qi_rng hv9) Tryz.underlying35 rfl (by kernel_rfl)) rfl ⟨by rw [HV.out]; rfl, by rw [HV.out]; exact HTV.out, MV.out.mono (fun _ _ x => x.elim)⟩
    · have t3 : (openE T n m who != 0) = true := by simp [he]
      have HV := Lib.hid (openE_err (now := now) HL.out he)
      clear he
      go_upto_region 8 with (fail)
      refine wp_region_lit ?_
      iterate 2
        refine wpList_plain rfl fun K hK => ?_
        go_simp
        refine hK _ _ ?_
        clear hK K
      refine wpl_store_row rfl 35 (.tmp 10) (.tmp 42) rfl rfl (w.heap.size + 1 + 1 + 1) (qiC Qi.zero) rfl rfl 35 _ HZ5.out rfl (qi_one _) (by kernel_rfl) ?_
      intro V9 hv9 mv9
      refine wpList_plain rfl fun K hK => ?_
      go_simp
      refine hK _ _ ?_
      clear hK K
      refine wpList_nil ?_
      have MV : Hid (Mod (fun _ => False) w V9) := (MV0.out).trans' mv9 fun k hk e => by omega
      have HTV := Lib.hid ((Hh.out).mod0 MV.out)
      go_wp2
      refine bodyPost_ret (results_cell2 rfl _ _ V9 (w.heap.size + 1 + 1 + 1) (qiC Qi.zero) _ rfl (qi_rng hv9) Tryz.underlying35 rfl (by kernel_rfl)) rfl ⟨by rw [HV.out]; rfl, by rw [HV.out]; exact HTV.out, MV.out.mono (fun _ _ x => x.elim)⟩
end Go.Proofs.YtkcnbbjmkkaolaaGreatDoor
namespace Go.Proofs.YtkcnbbjmkkaolaaGreatDoor
open Go.RowKit

def PWst (ρ : Nat → Role) (b mb cnt : Nat) (am : Nat → Nat) (vk : Nat → Value) (R : Tr × Nat × Int) (w : World) (e : Ending) (w' : World) : Prop :=
  e = .returned (.tuple #[.int .u32 R.2.1, .int .i64 R.2.2]) ∧ PTreeP w' ρ b mb cnt R.1 am vk ∧ Mod (Foot ρ) w w'
set_option maxHeartbeats 4000000 in
set_option maxRecDepth 100000 in
theorem pwrite_any {w : World} {ρ : Nat → Role} {b mb cnt : Nat} {T : Tr} {am : Nat → Nat} {vk : Nat → Value} (h : PTreeP w ρ b mb cnt T am vk) (hwf : WF T) (p off : Nat) (d who : ByteArray) (now : Nat) (hp : p < 18446744073709551616) (ho : off < 18446744073709551616) (hds : d.size ≤ 140737488355328) :
    Calls Tryz.prog 23 #[.pointer (some ⟨b, 0, none⟩), .int .u64 p, .int .u64 off, .string d, .string who, .int .u32 now] w fun e w' => PWst ρ b mb cnt am vk (writeT T p off d who now) w e w' := by
  have hG := pget_any h p hp
  have HS : Hid (writeT T p off d who now = match look T.L p with | none => (T, 0, 180) | some n => if n.dir = true then (T, 0, 181) else if 7168 < off + d.size then (T, 0, 4) else if d.size = 0 then (T, 0, 0) else ({ T with L := updN T.L p fun n => Nd.touch { n with data := writeB n.data off d } who now }, d.size, 0)) := rfl
  have HK : Hid (∀ z : Int, writeT T p off d who now = (T, 0, z) → PWst ρ b mb cnt am vk (writeT T p off d who now) w (.returned (.tuple #[.int .u32 0, .int .i64 z])) w) := fun z hz => by
    rw [hz]; exact ⟨rfl, h, Mod.refl _ _⟩
  cases hl : look T.L p with
  | none =>
    have e1 : ptrV T.L am p = .pointer none := by unfold ptrV; rw [hl]
    have HV : Hid (writeT T p off d who now = (T, 0, 180)) := by show _ = _; rw [HS.out, hl]
    rw [e1, hl] at hG
    simp only [Option.isSome_none, Bool.false_eq_true, if_false] at hG
    clear HS hl e1 h hwf
    go_enter Tryz.func23, Tryz.ntmps23
    go_wp2_with fail
    refine hG.mono ?_
    rintro e w1 ⟨rfl, rfl⟩
    clear hG
    go_wp2
    go_ret2
    exact HK.out _ HV.out
  | some n =>
    obtain ⟨hnm, hnp⟩ := look_some hl
    have e1 : ptrV T.L am p = .pointer (some ⟨am p, 0, none⟩) := by unfold ptrV; rw [hl]
    have HS2 : Hid (writeT T p off d who now = if n.dir = true then (T, 0, 181) else if 7168 < off + d.size then (T, 0, 4) else if d.size = 0 then (T, 0, 0) else ({ T with L := updN T.L p fun n => Nd.touch { n with data := writeB n.data off d } who now }, d.size, 0)) := by show _ = _; rw [HS.out, hl]
    rw [e1, hl] at hG
    simp only [Option.isSome_some, if_true] at hG
    have hN : w.heap[am p]? = some (pnO n (vk p)) := by rw [← hnp]; exact h.node n hnm
    have hD := pdir_any (am p) n (vk p) w hN
    have hno := hwf.ok n hnm
    have H := Lib.hid h
    have HWF := Lib.hid hwf
    have HL := Lib.hid hl
    clear HS e1 hnp hnm h hwf hl
    cases hd : n.dir with
    | true =>
      rw [hd] at hD
      have HV : Hid (writeT T p off d who now = (T, 0, 181)) := HS2.out.trans (if_pos hd)
      clear HS2 hd hN
      go_enter Tryz.func23, Tryz.ntmps23
      go_wp2_with fail
      refine hG.mono ?_
      rintro e w1 ⟨rfl, rfl⟩
      clear hG
      go_wp2_with fail
      refine hD.mono ?_
      rintro e w1 ⟨rfl, rfl⟩
      clear hD
      go_wp2
      go_ret2
      exact HK.out _ HV.out
    | false =>
    rw [hd] at hD
    have HS3 := Lib.hid (HS2.out.trans (if_neg (by rw [hd]; simp)))
    clear HS2 hd
    have hw0 : IntKind.u64.wrap (d.size : Int) = d.size := by rw [IntKind.wrap_u64]; omega
    by_cases hbig : 7168 < off + d.size
    · have HV : Hid (writeT T p off d who now = (T, 0, 4)) := HS3.out.trans (if_pos hbig)
      clear HS3 hN
      by_cases h1 : 7168 < off
      · have t2 : decide (7168 < (off : Int)) = true := by simp; omega
        have t2' : decide (7168 < off) = true := by simp; omega
        go_enter Tryz.func23, Tryz.ntmps23
        go_wp2_with fail
        refine hG.mono ?_
        rintro e w1 ⟨rfl, rfl⟩
        clear hG
        go_wp2_with fail
        refine hD.mono ?_
        rintro e w1 ⟨rfl, rfl⟩
        clear hD
        go_wp2
        go_ret2
        exact HK.out _ HV.out
      have t2 : decide (7168 < (off : Int)) = false := by simp; omega
      have t2' : decide (7168 < off) = false := by simp; omega
      have hw1 : IntKind.u64.wrap ((off : Int) + d.size) = off + d.size := by rw [IntKind.wrap_u64]; omega
      have t4 : decide (7168 < (off : Int) + (d.size : Int)) = true := by simp; omega
      go_enter Tryz.func23, Tryz.ntmps23
      go_wp2_with fail
      refine hG.mono ?_
      rintro e w1 ⟨rfl, rfl⟩
      clear hG
      go_wp2_with fail
      refine hD.mono ?_
      rintro e w1 ⟨rfl, rfl⟩
      clear hD
      go_wp2
      go_ret2
      exact HK.out _ HV.out
    have HS4 := Lib.hid (HS3.out.trans (if_neg hbig))
    clear HS3
    have t2 : decide (7168 < (off : Int)) = false := by simp; omega
    have t2' : decide (7168 < off) = false := by simp; omega
    have hw1 : IntKind.u64.wrap ((off : Int) + d.size) = off + d.size := by rw [IntKind.wrap_u64]; omega
    have t4 : decide (7168 < (off : Int) + (d.size : Int)) = false := by simp; omega
    by_cases hdz : d.size = 0
    · have HV : Hid (writeT T p off d who now = (T, 0, 0)) := HS4.out.trans (if_pos hdz)
      have qE : d.toList.isEmpty = true := by rw [empty_beq]; simpa using hdz
      clear HS4 hN
      go_enter Tryz.func23, Tryz.ntmps23
      go_wp2_with fail
      refine hG.mono ?_
      rintro e w1 ⟨rfl, rfl⟩
      clear hG
      go_wp2_with fail
      refine hD.mono ?_
      rintro e w1 ⟨rfl, rfl⟩
      clear hD
      go_wp2
      go_ret2
      exact HK.out _ HV.out
    have qE : d.toList.isEmpty = false := by rw [empty_beq]; simpa using hdz
    have HS5 := Lib.hid (HS4.out.trans (if_neg hdz))
    clear HS4 HK
    have hdl := hno.data
    have c14 : w.cell? ⟨am p, 14, none⟩ = some (.string n.data) := (cell_of hN 14).trans rfl
    obtain ⟨s, hs⟩ : ∃ s, n.data = s := ⟨_, rfl⟩
    rw [hs] at c14 hdl
    have hw : IntKind.i64.wrap (off : Int) = off := by rw [IntKind.wrap_i64]; omega
    have hwe : IntKind.i64.wrap ((off : Int) + d.size) = off + d.size := by rw [IntKind.wrap_i64]; omega
    have hmx : max (s.size : Int) ((off : Int) + d.size) = ((max s.size (off + d.size) : Nat) : Int) := by omega
    have hSz := fun U => msized_any s (max s.size (off + d.size)) U (by omega) (by omega)
    have hszz := sized_size s (max s.size (off + d.size))
    have HWR : Hid (writeB s off d = (sizedB s (max s.size (off + d.size))).extract 0 off ++ d ++ (sizedB s (max s.size (off + d.size))).extract (off + d.size) (max s.size (off + d.size))) := rfl
    have hle : off + d.size ≤ max s.size (off + d.size) := Nat.le_max_right _ _
    have hNl : max s.size (off + d.size) ≤ 7168 := by omega
    generalize hNe : max s.size (off + d.size) = N at *
    generalize sizedB s N = z at *
    have hal : am p < w.heap.size := lt_of hN
    have HN := Lib.hid hN
    have hHs := Lib.hid hs
    have HNo := Lib.hid hno
    clear hs hN hno hNe
    go_enter Tryz.func23, Tryz.ntmps23
    go_wp2_with fail
    refine hG.mono ?_
    rintro e w1 ⟨rfl, rfl⟩
    clear hG
    go_wp2_with fail
    refine hD.mono ?_
    rintro e w1 ⟨rfl, rfl⟩
    clear hD
    go_upto_region 11 with (fail)
    refine wp_region_held_drew (S := fun w' => Hid (Mod (fun _ => False) w w')) (by kernel_rfl) (Lib.hid (Mod.refl (fun _ => False) w).drew) (fun hHeld => ?_)
    refine hT 0 rfl (fun _ _ => by go_simp; all_goals with_reducible rfl) ?_
    try simp only [gA, gB, gC, Act.put, sA, sB, sC]
    refine hT 1 rfl (fun _ _ => by go_simp; all_goals with_reducible rfl) ?_
    try simp only [gA, gB, gC, Act.put, sA, sB, sC]
    refine hT 2 rfl (fun _ _ => by go_simp; all_goals with_reducible rfl) ?_
    try simp only [gA, gB, gC, Act.put, sA, sB, sC]
    refine hT 3 rfl (fun wH hSw => by have cH := keepN hSw.out c14; clear hSw; go_simp; all_goals with_reducible rfl) ?_
    try simp only [gA, gB, gC, Act.put, sA, sB, sC]
    refine hT 4 rfl (fun _ _ => by go_simp; all_goals with_reducible rfl) ?_
    try simp only [gA, gB, gC, Act.put, sA, sB, sC]
    refine hT 5 rfl (fun _ _ => by go_simp; all_goals with_reducible rfl) ?_
    try simp only [gA, gB, gC, Act.put, sA, sB, sC]
    refine hT 6 rfl (fun _ _ => by go_simp; all_goals with_reducible rfl) ?_
    try simp only [gA, gB, gC, Act.put, sA, sB, sC]
    refine hT 7 rfl (fun wH hSw => by have cH := keepN hSw.out c14; clear hSw; go_simp; all_goals with_reducible rfl) ?_
    try simp only [gA, gB, gC, Act.put, sA, sB, sC]
    refine hT 8 rfl (fun _ _ => by go_simp; all_goals with_reducible rfl) ?_
    try simp only [gA, gB, gC, Act.put, sA, sB, sC]
    refine hT 9 rfl (fun _ _ => by go_simp; all_goals with_reducible rfl) ?_
    try simp only [gA, gB, gC, Act.put, sA, sB, sC]
    refine hT 10 rfl (fun _ _ => by go_simp; all_goals with_reducible rfl) ?_
    try simp only [gA, gB, gC, Act.put, sA, sB, sC]
    refine hR1 11 rfl fun K hK => ?_
    go_simp
    refine (hSz _).mono ?_
    rintro e w4 ⟨rfl, m4⟩
    refine hK.out _ _ (Lib.hid (hHeld.out.trans m4)) ?_; clear hK K hHeld; intro hHeld
    try simp only [gA, gB, gC, Act.put, sA, sB, sC]
    refine hT 12 rfl (fun _ _ => by go_simp; all_goals with_reducible rfl) ?_
    try simp only [gA, gB, gC, Act.put, sA, sB, sC]
    refine wpAnyH_done (by kernel_rfl) ?_ _
    have HM : Hid (Mod (fun _ => False) w w4) := hHeld.out
    have HN4 := Lib.hid ((HM.out.block _ hal (fun x => x)).trans HN.out)
    have H4 := Lib.hid (H.out.mod0 HM.out)
    clear hHeld m4 hSz c14 H HN hmx
    have b1 : (0 : Int) ≤ (off : Int) := by omega
    have b2 : (off : Int) ≤ z.size := by omega
    have b2' : off ≤ z.size := by omega
    have b3 : (0 : Int) ≤ (off : Int) + (d.size : Int) := by omega
    have b4 : (off : Int) + (d.size : Int) ≤ z.size := by omega
    have b4' : off + d.size ≤ z.size := by omega
    obtain ⟨r, hre⟩ : ∃ r, z.extract (off + d.size) z.size = r := ⟨_, rfl⟩
    have hrl : r.size ≤ 7168 := by rw [← hre, ByteArray.size_extract]; omega
    obtain ⟨nd, hnd⟩ : ∃ nd, z.extract 0 off ++ d ++ r = nd := ⟨_, rfl⟩
    have hno1 : ¬ 9223372036854775807 < (z.extract 0 off).size + d.size := by rw [ByteArray.size_extract]; omega
    have hno3 : ¬ 9223372036854775807 < off + d.size := by omega
    have hno4 : ¬ 9223372036854775807 < off + d.size + r.size := by omega
    have hno2 : ¬ 9223372036854775807 < (z.extract 0 off ++ d).size + r.size := by rw [ByteArray.size_append, ByteArray.size_extract]; omega
    have HW2 : Hid (writeB n.data off d = nd) := by show _ = _; rw [hHs.out, HWR.out, ← hszz, hre, hnd]
    have HV : Hid (writeT T p off d who now = ({ T with L := updN T.L p fun n => Nd.touch { n with data := writeB n.data off d } who now }, d.size, 0)) := HS5.out
    have hwd : IntKind.u32.wrap (d.size : Int) = d.size := by rw [IntKind.wrap_u32]; omega
    obtain ⟨n', hn'⟩ : ∃ n' : Nd, { n with data := nd } = n' := ⟨_, rfl⟩
    have f14 : w4.frozen? ⟨am p, 14, none⟩ = false := free_of HN4.out 14
    have c14 : w4.cell? ⟨am p, 14, none⟩ = some (.string n.data) := (cell_of HN4.out 14).trans rfl
    obtain ⟨V1, hV1⟩ : ∃ V1, w4.setCell ⟨am p, 14, none⟩ (.string nd) = V1 := ⟨_, rfl⟩
    have hN1 : V1.heap[am p]? = some (pnO n' (vk p)) := by rw [← hV1, ← hn']; exact heap_set HN4.out 14 _
    have m1 : Mod (· = am p) w4 V1 := by rw [← hV1]; exact Mod.set1 w4 (am p) 14 _
    have hTo := ptouch_any (am p) n' (vk p) who now V1.drew hN1 (by rw [← hn']; exact HNo.out.ver)
    have M1 := Lib.hid m1
    have HN' := Lib.hid hn'
    clear hN1 m1 hn' HS5 HWR hszz hle
    clear hNl hw1 hwe hw0
    have htn : ((off : Int) + (d.size : Int)).toNat = off + d.size := by omega
    go_upto_region 12 with (fail)
    refine wp_region_any (by kernel_rfl) ?_
    change wpAny _ _ _ _ _ _ _ (World.drew _)
    refine wpAny_take (i := 0) (v := ?_) rfl (by kernel_rfl) (by kernel_rfl) (by kernel_rfl) (fun _ _ _ h => h) (Or.inl ⟨by rfl, ?_⟩) ?_
    rotate_left
    · intro w; go_simp
      all_goals with_reducible rfl
    refine wpAny_take (i := 1) (v := ?_) rfl (by kernel_rfl) (by kernel_rfl) (by kernel_rfl) (fun _ _ _ h => h) (Or.inl ⟨by rfl, ?_⟩) ?_
    rotate_left
    · intro w; go_simp
      all_goals with_reducible rfl
    refine wpAny_take (i := 2) (v := ?_) rfl (by kernel_rfl) (by kernel_rfl) (by kernel_rfl) (fun _ _ _ h => h) (Or.inl ⟨by rfl, ?_⟩) ?_
    rotate_left
    · intro w; go_simp
      all_goals with_reducible rfl
    refine wpAny_take (i := 3) (v := ?_) rfl (by kernel_rfl) (by kernel_rfl) (by kernel_rfl) (fun _ _ _ h => h) (Or.inl ⟨by rfl, ?_⟩) ?_
    rotate_left
    · intro w; go_simp
      all_goals with_reducible rfl
    refine wpAny_take (i := 4) (v := ?_) rfl (by kernel_rfl) (by kernel_rfl) (by kernel_rfl) (fun _ _ _ h => h) (Or.inl ⟨by rfl, ?_⟩) ?_
    rotate_left
    · intro w; go_simp
      all_goals with_reducible rfl
    refine wpAny_take (i := 5) (v := ?_) rfl (by kernel_rfl) (by kernel_rfl) (by kernel_rfl) (fun _ _ _ h => h) (Or.inl ⟨by rfl, ?_⟩) ?_
    rotate_left
    · intro w; go_simp
      all_goals with_reducible rfl
    refine wpAny_take (i := 6) (v := ?_) rfl (by kernel_rfl) (by kernel_rfl) (by kernel_rfl) (fun _ _ _ h => h) (Or.inl ⟨by rfl, ?_⟩) ?_
    rotate_left
    · intro w; go_simp
      all_goals with_reducible rfl
    refine wpAny_take (i := 7) (v := ?_) rfl (by kernel_rfl) (by kernel_rfl) (by kernel_rfl) (fun _ _ _ h => h) (Or.inl ⟨by rfl, ?_⟩) ?_
    rotate_left
    · intro w; go_simp
      all_goals with_reducible rfl
    refine wpAny_take (i := 8) (v := ?_) rfl (by kernel_rfl) (by kernel_rfl) (by kernel_rfl) (fun _ _ _ h => h) (Or.inl ⟨by rfl, ?_⟩) ?_
    rotate_left
    · intro w; go_simp
      all_goals with_reducible rfl
    refine wpAny_take (i := 9) (v := ?_) rfl (by kernel_rfl) (by kernel_rfl) (by kernel_rfl) (fun _ _ _ h => h) (Or.inl ⟨by rfl, ?_⟩) ?_
    rotate_left
    · intro w; go_simp
      all_goals with_reducible rfl
    refine wpAny_take (i := 10) (v := ?_) rfl (by kernel_rfl) (by kernel_rfl) (by kernel_rfl) (fun _ _ _ h => h) (Or.inl ⟨by rfl, ?_⟩) ?_
    rotate_left
    · intro w; go_simp
      all_goals with_reducible rfl
    refine wpAny_take (i := 11) (v := ?_) rfl (by kernel_rfl) (by kernel_rfl) (by kernel_rfl) (fun _ _ _ h => h) (Or.inl ⟨by rfl, ?_⟩) ?_
    rotate_left
    · intro w; go_simp
      all_goals with_reducible rfl
    refine wpAny_ready (rs := [12]) (by kernel_rfl) (by simp) ?_
    refine AllReady.cons rfl (fun K hK => ?_) AllReady.nil
    go_simp
    refine hK _ _ ?_
    clear hK K
    refine wpAny_done (by kernel_rfl) ?_ _
    go_wp2_with fail
    refine hTo.mono ?_
    rintro e V2 ⟨rfl, hN2, m2⟩
    obtain ⟨HP, HMf⟩ := H4.out.setN HWF.out.rise (f := fun n => Nd.touch { n with data := writeB n.data off d } who now) (fun _ => rfl) (fun _ => rfl) HL.out ((M1.out.drew).trans m2) (by rw [HW2.out, HN'.out]; exact hN2)
    have HP := Lib.hid HP
    have HMf : Hid (Mod (Foot ρ) w V2) := (HM.out.mono fun _ _ x => x.elim).trans HMf
    clear hTo hN2 m2
    go_wp2
    go_ret2
    exact ⟨by rw [HV.out]; rfl, by rw [HV.out]; exact HP.out, HMf.out⟩
end Go.Proofs.YtkcnbbjmkkaolaaGreatDoor
namespace Go.Proofs.YtkcnbbjmkkaolaaGreatDoor
open Go.RowKit

/-- the first place of x, or -1 -/
def fiI (l : List Nat) (x : Nat) : Nat := l.findIdx (· == x)
def idxI (l : List Nat) (x : Nat) : Int := if fiI l x < l.length then (fiI l x : Int) else -1
theorem fiI_hit {l : List Nat} {x j : Nat} (hj : j < l.length) (h : l[j] = x) (hn : ∀ i (hi : i < l.length), i < j → l[i] ≠ x) : fiI l x = j := by
  unfold fiI
  rw [List.findIdx_eq hj]
  exact ⟨by simpa using h, fun i hi => by simpa using hn i (by omega) hi⟩
theorem fiI_miss {l : List Nat} {x : Nat} (hn : ∀ i (hi : i < l.length), l[i] ≠ x) : ¬ fiI l x < l.length := by
  intro h
  unfold fiI at h
  have := List.findIdx_getElem (p := (· == x)) (xs := l) (w := h)
  exact hn _ h (by simpa using this)
set_option maxRecDepth 100000 in
set_option maxHeartbeats 1000000 in
theorem index_any {P : Nat → Prop} (v : Value) (l : List Nat) (x : Nat) (w : World) (h : SlAt w P v (kidsV l)) (hl : l.length ≤ 1000) :
    Calls Tryz.prog 64 #[v, .int .u64 x] w fun e w' => e = .returned (.int .i64 (idxI l x)) ∧ w = w' := by
  obtain ⟨a, cap, rfl, hcap, hel⟩ := kids_form h
  clear h
  go_enter Tryz.func64, Tryz.ntmps64
  go_wp2
  go_loop [5, 8] (fun _ i => ∃ j : Nat, j ≤ l.length ∧ i = .int .i64 j ∧ Hid (∀ q (hq : q < l.length), q < j → l[q] ≠ x)) (fun _ i => l.length - (intOf i).toNat)
  case atStart => exact ⟨0, Nat.zero_le _, rfl, fun q _ h => absurd h (Nat.not_lt_zero _)⟩
  case round =>
    obtain ⟨j, hj, rfl, HA⟩ := hrel
    by_cases hlt : j < l.length
    · have t1 : decide ((j : Int) < (l.length : Int)) = true := by simp; omega
      have t1' : decide (j < l.length) = true := by simp; omega
      obtain ⟨g, off, rfl, _, e0⟩ := hel j hlt
      have i1 : (0 : Int) ≤ (j : Int) := by omega
      have i2 : (j : Int) < (l.length : Int) := by omega
      have i3 : (l.length : Int) ≤ (cap : Int) := by omega
      by_cases hp : l[j] = x
      · have HV : Hid (idxI l x = j) := by
          show _ = _
          unfold idxI
          rw [fiI_hit hlt hp HA.out, if_pos hlt]
        have t2 : ((x : Int) == (l[j] : Int)) = true := by simp [hp]
        clear HA hp
        generalize l[j] = k at *
        go_wp2
        go_ret
        exact ⟨by rw [HV.out]; rfl, rfl⟩
      · have t2 : ((x : Int) == (l[j] : Int)) = false := by simp; omega
        have HV : Hid (∀ q (hq : q < l.length), q < j + 1 → l[q] ≠ x) := fun q hq h => by
          by_cases e : q = j
          · subst e; exact hp
          · exact HA.out q hq (by omega)
        clear HA hp
        generalize l[j] = k at *
        go_wp2
        go_round
        case rel => exact ⟨j + 1, hlt, by go_num, HV.out⟩
        case measure => simp [intOf]; omega
    · obtain rfl : j = l.length := by omega
      have t1 : decide ((l.length : Int) < (l.length : Int)) = false := by simp
      have t1' : decide (l.length < l.length) = false := by simp
      have HV : Hid (idxI l x = -1) := by
        show _ = _
        unfold idxI
        rw [if_neg (fiI_miss fun i hi => HA.out i hi hi)]
      clear HA
      go_wp2
      go_ret
      exact ⟨by rw [HV.out]; rfl, rfl⟩
theorem look_gone {L : List Nd} {p : Nat} : look (L.filter fun n => decide (n.path ≠ p)) p = none := by
  unfold look
  rw [List.find?_eq_none]
  intro n hn
  have := (List.mem_filter.1 hn).2
  simpa using this
section
variable {w w' : World} {ρ : Nat → Role} {b mb cnt : Nat} {T : Tr} {am : Nat → Nat} {vk : Nat → Value}
/-- a file is struck out of the map -/
theorem PTreeP.erase (h : PTreeP w ρ b mb cnt T am vk) (hw : T.L.Pairwise fun a b => a.path < b.path) {p : Nat} {n : Nd} (hn : look T.L p = some n) (hp : p < 18446744073709551616) :
    ∃ w', (∀ ty, (Builtin.delete_ #[79, 33] ty #[.map (some mb), .int .u64 p]).run Tryz.prog w = .ok (.tuple #[]) w') ∧ PTreeP w' ρ b mb cnt { T with L := T.L.filter fun n => decide (n.path ≠ p) } am vk ∧ Mod (· = mb) w w' := by
  obtain ⟨w', h1, h2, hm⟩ := h.map.drop encU64_inj lawM Tryz.underlying79 (key_u64 Tryz.underlying33 hp) 0
  have hin : ∀ {m : Nd}, m ∈ (T.L.filter fun n => decide (n.path ≠ p)) → m ∈ T.L := fun hm => (List.mem_filter.1 hm).1
  have hne : ∀ {k : Nat}, ρ k ≠ .map → k ≠ mb := fun hk e => hk (by rw [e]; exact h.rm)
  refine ⟨w', fun ty => h1, ⟨?_, ?_, fun m hm' => ?_, fun m hm' => ?_, h.rb, h.rm, fun m hm' => h.rn m (hin hm'), fun m hm' => h.rk m (hin hm'), fun k hk => Nat.lt_of_lt_of_le (h.lt k hk) hm.size⟩, hm⟩
  · exact (hm.block b (lt_of h.obj) (hne (by rw [h.rb]; exact fun x => by cases x))).trans h.obj
  · refine h2.congr (fun q => ?_) ?_
    · unfold fN
      show Option.map _ (look (T.L.filter _) q) = _
      by_cases e : q = p
      · rw [if_pos e, e, look_gone]; rfl
      · rw [if_neg e, look_filter e]
    · have hs : (fN T.L am p).isSome = true := by unfold fN; rw [hn]; rfl
      rw [if_pos hs]
      obtain ⟨i, hi, _, hil⟩ := look_get hn
      show (T.L.filter _).length = _
      rw [erase_filter hw hi, List.length_eraseIdx, if_pos hil]
  · exact (hm.block _ (lt_of (h.node m (hin hm'))) (hne (by rw [h.rn m (hin hm')]; exact fun x => by cases x))).trans (h.node m (hin hm'))
  · exact (h.kid m (hin hm')).modB hm fun k hk e => by have := h.rk m (hin hm') k hk; rw [e, h.rm] at this; cases this
end
theorem upd_upd {L : List Nd} {p : Nat} {f g : Nd → Nd} (hf : ∀ n, (f n).path = n.path) : updN (updN L p f) p g = updN L p fun n => g (f n) := by
  unfold updN
  rw [List.map_map]
  refine List.map_congr_left fun n _ => ?_
  show (if (if n.path = p then f n else n).path = p then g (if n.path = p then f n else n) else if n.path = p then f n else n) = _
  by_cases h : n.path = p
  · rw [if_pos h, if_pos (by rw [hf]; exact h), if_pos h]
  · rw [if_neg h, if_neg h, if_neg h]
theorem upd_congr {L : List Nd} {p : Nat} {f g : Nd → Nd} (h : ∀ n ∈ L, n.path = p → f n = g n) : updN L p f = updN L p g := by
  unfold updN
  refine List.map_congr_left fun n hn => ?_
  by_cases e : n.path = p
  · rw [if_pos e, if_pos e, h n hn e]
  · rw [if_neg e, if_neg e]
theorem look_one {L : List Nd} (hw : L.Pairwise fun a b => a.path < b.path) {p : Nat} {n m : Nd} (hn : look L p = some n) (hm : m ∈ L) (hp : m.path = p) : m = n := by
  have h6 := look_of hw hm
  rw [hp, hn] at h6
  injection h6 with h6
  exact h6.symm
/-- one place, where the path stands but once -/
theorem map_set {l : List Nat} {p : Nat} (h : l.count p = 1) : fiI l p < l.length ∧ (l.map fun k => if k = p then 0 else k) = l.set (fiI l p) 0 := by
  have h1 : p ∈ l := List.count_pos_iff.1 (by omega)
  have h2 : fiI l p < l.length := by unfold fiI; rw [List.findIdx_lt_length]; exact ⟨p, h1, by simp⟩
  refine ⟨h2, ?_⟩
  induction l with
  | nil => cases h1
  | cons k r ih =>
    by_cases hk : k = p
    · subst hk
      have e1 : fiI (k :: r) k = 0 := by unfold fiI; rw [List.findIdx_cons]; simp
      rw [e1, List.map_cons, if_pos rfl, List.set_cons_zero]
      have h3 : r.count k = 0 := by rw [List.count_cons] at h; simp at h; omega
      congr 1
      conv => rhs; rw [← List.map_id r]
      refine List.map_congr_left fun x hx => ?_
      rw [if_neg (fun e => by rw [e] at hx; have := List.count_pos_iff.2 hx; omega)]
      rfl
    · have e1 : fiI (k :: r) p = fiI r p + 1 := by
        unfold fiI
        rw [List.findIdx_cons, show (k == p) = false by simpa using hk]
        rfl
      have h3 : r.count p = 1 := by rw [List.count_cons, show (k == p) = false by simpa using hk] at h; simpa using h
      rw [e1, List.map_cons, if_neg hk, List.set_cons_succ]
      rw [e1, List.length_cons] at h2
      rw [ih h3 (List.count_pos_iff.1 (by omega)) (by omega)]
end Go.Proofs.YtkcnbbjmkkaolaaGreatDoor
namespace Go.Proofs.YtkcnbbjmkkaolaaGreatDoor

theorem upd_mem {L : List Nd} {p : Nat} {f : Nd → Nd} {n : Nd} (h : n ∈ updN L p f) : ∃ m ∈ L, n = if m.path = p then f m else m := by
  unfold updN at h
  obtain ⟨m, hm, e⟩ := List.mem_map.1 h
  exact ⟨m, hm, e.symm⟩
theorem WF.upd {T : Tr} (h : WF T) (p : Nat) (f : Nd → Nd) (hp : ∀ n, (f n).path = n.path) (hr : ∀ n, (f n).parent = n.parent) (hk : ∀ n, (f n).kids = n.kids) (ho : ∀ n ∈ T.L, n.path = p → (f n).Ok) : WF { T with L := updN T.L p f } := by
  have g1 : ∀ m : Nd, (if m.path = p then f m else m).path = m.path := fun m => by split; exact hp m; rfl
  have g2 : ∀ m : Nd, (if m.path = p then f m else m).parent = m.parent := fun m => by split; exact hr m; rfl
  have g3 : ∀ m : Nd, (if m.path = p then f m else m).kids = m.kids := fun m => by split; exact hk m; rfl
  refine ⟨?_, ?_, ?_, ?_, ?_, ?_, ?_, ?_, ?_⟩
  · show (updN T.L p f).Pairwise _
    unfold updN
    rw [List.pairwise_map]
    exact h.rise.imp fun hab => by rw [g1, g1]; exact hab
  · intro n hn
    obtain ⟨m, hm, rfl⟩ := upd_mem hn
    rw [g1]
    exact h.lo m hm
  · intro n hn
    obtain ⟨m, hm, rfl⟩ := upd_mem hn
    split
    · rename_i e; exact ho m hm e
    · exact h.ok m hm
  · show (updN T.L p f).length ≤ 1024
    unfold updN
    rw [List.length_map]
    exact h.len
  · intro n hn
    obtain ⟨m, hm, rfl⟩ := upd_mem hn
    obtain ⟨d, hd⟩ := h.par m hm
    rw [g2]
    exact ⟨_, by show look (updN T.L p f) _ = _; rw [upd_get hp, hd]; rfl⟩
  · intro d hd k hk1 hk0
    obtain ⟨m, hm, rfl⟩ := upd_mem hd
    rw [g3] at hk1
    obtain ⟨n, hn, e1, e2⟩ := h.kid m hm k hk1 hk0
    exact ⟨_, by show look (updN T.L p f) _ = _; rw [upd_get hp, hn]; rfl, by rw [g2, g1]; exact e1, e2⟩
  · intro n hn h1 d hd
    obtain ⟨m, hm, rfl⟩ := upd_mem hn
    rw [g1] at h1 ⊢
    have hd' : look (updN T.L p f) _ = some d := hd
    rw [g2, upd_get hp] at hd'
    obtain ⟨d0, h2⟩ := h.par m hm
    rw [h2] at hd'
    injection hd' with hd'
    rw [← hd', g3]
    exact h.one m hm h1 d0 h2
  · obtain ⟨r, h1, h2⟩ := h.root
    exact ⟨_, by show look (updN T.L p f) _ = _; rw [upd_get hp, h1]; rfl, by rw [g2]; exact h2⟩
  · intro n hn h1
    obtain ⟨m, hm, rfl⟩ := upd_mem hn
    rw [g1] at h1
    rw [g1, g2]
    exact h.up m hm h1
end Go.Proofs.YtkcnbbjmkkaolaaGreatDoor
namespace Go.Proofs.YtkcnbbjmkkaolaaGreatDoor

theorem touch_ok {n : Nd} {who : ByteArray} {now : Nat} (h : n.Ok) (hw : who.size ≤ 65536) (hn : now < 4294967296) : (n.touch who now).Ok :=
  ⟨h.path, Nat.mod_lt _ (by decide), h.perm, h.uid, h.gid, hw, h.atime, hn, h.parent, h.name, h.data, h.kl, h.kids⟩
theorem data_ok {n : Nd} {s : ByteArray} (h : n.Ok) (hs : s.size ≤ 7168) : ({ n with data := s } : Nd).Ok :=
  ⟨h.path, h.ver, h.perm, h.uid, h.gid, h.muid, h.atime, h.mtime, h.parent, h.name, hs, h.kl, h.kids⟩
theorem open_wf {T : Tr} (h : WF T) (p m : Nat) {who : ByteArray} {now : Nat} (hw : who.size ≤ 65536) (hn : now < 4294967296) : WF (openT T p m who now).1 := by
  unfold openT
  cases look T.L p with
  | none => exact h
  | some n =>
    show WF (if _ then _ else _ : Tr × Qi × Int).1
    split
    · exact h
    · split
      · exact h.upd p _ (fun _ => rfl) (fun _ => rfl) (fun _ => rfl) fun n hm _ => touch_ok (data_ok (h.ok n hm) (by decide)) hw hn
      · exact h
theorem write_wf {T : Tr} (h : WF T) (p off : Nat) (d : ByteArray) {who : ByteArray} {now : Nat} (hw : who.size ≤ 65536) (hn : now < 4294967296) : WF (writeT T p off d who now).1 := by
  unfold writeT
  cases look T.L p with
  | none => exact h
  | some n =>
    show WF (if _ then _ else _ : Tr × Nat × Int).1
    split
    · exact h
    · split
      · exact h
      · split
        · exact h
        · exact h.upd p _ (fun _ => rfl) (fun _ => rfl) (fun _ => rfl) fun n hm _ => touch_ok (data_ok (h.ok n hm) (by rw [writeB_size]; have := (h.ok n hm).data; omega)) hw hn
end Go.Proofs.YtkcnbbjmkkaolaaGreatDoor
namespace Go.Proofs.YtkcnbbjmkkaolaaGreatDoor

theorem new_wf {owner : ByteArray} {now : Nat} (hw : owner.size ≤ 65536) (hn : now < 4294967296) : WF (newT owner now) := by
  have hl : look (newT owner now).L 1 = some (rootNd owner now) := rfl
  have hm : ∀ n ∈ (newT owner now).L, n = rootNd owner now := fun n hn => List.mem_singleton.1 hn
  refine ⟨List.pairwise_singleton _ _, fun n hn => ?_, fun n hn' => ?_, by show 1 ≤ 1024; decide, fun n hn => ?_, fun d hd k hk _ => ?_, fun n hn h1 => ?_, ⟨_, hl, rfl⟩, fun n hn h1 => ?_⟩
  · rw [hm n hn]; exact ⟨Nat.le_refl _, Nat.le_refl _⟩
  · rw [hm n hn']
    exact ⟨by show 1 < _; decide, by show 0 < _; decide, by show 493 < _; decide, hw, hw, hw, hn, hn, by show 1 < _; decide, by show 1 ≤ _; decide, by show 0 ≤ _; decide, by show 0 ≤ _; decide, fun k hk => by cases hk⟩
  · rw [hm n hn]; exact ⟨_, hl⟩
  · rw [hm d hd] at hk; cases hk
  · rw [hm n hn] at h1; exact absurd rfl h1
  · rw [hm n hn] at h1; exact absurd rfl h1
end Go.Proofs.YtkcnbbjmkkaolaaGreatDoor
