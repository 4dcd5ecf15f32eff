/- The package's tree: Create.
   The package's tree: Stat, Parent, Read.
   In a round of a range over a function: a region that draws its order, whose last operation comes up behind all others.
   The package's tree: List. -/
import Derived.Test.YtkcnbbjmkkaolaaGreatDoorQG09
import Derived.Test.YtkcnbbjmkkaolaaGreatDoorQG10
import Derived.Test.YtkcnbbjmkkaolaaGreatDoorQG00
import Derived.Test.YtkcnbbjmkkaolaaGreatDoorQG07
import Derived.Test.YtkcnbbjmkkaolaaGreatDoorQG04
set_option linter.unusedVariables false
set_option linter.unusedSimpArgs false
namespace Go.Proofs.YtkcnbbjmkkaolaaGreatDoor
open Go.RowKit

/-- what Create hands back -/
def PCst (b mb cnt : Nat) (ρ : Nat → Role) (R : Tr × Qi × Int) (w : World) (e : Ending) (w' : World) : Prop :=
  e = .returned (.tuple #[.agg (qiC R.2.1).toArray, .int .i64 R.2.2]) ∧ ∃ ρ' am' vk', PTreeP w' ρ' b mb (cnt + 1) R.1 am' vk' ∧ Mod (Foot ρ) w w' ∧ GrowsF w (Foot ρ) (Foot ρ')
theorem PCst.err {b mb cnt : Nat} {ρ : Nat → Role} {T : Tr} {am : Nat → Nat} {vk : Nat → Value} {R : Tr × Qi × Int} {z : Int} {w w' : World} (hR : R = (T, Qi.zero, z)) (h : PTreeP w ρ b mb cnt T am vk) (m : Mod (fun _ => False) w w') :
    PCst b mb cnt ρ R w (.returned (.tuple #[.agg (qiC Qi.zero).toArray, .int .i64 z])) w' := by
  rw [hR]
  exact ⟨rfl, ρ, am, vk, (h.mod0 m).mono (Nat.le_succ _), m.mono (fun _ _ x => x.elim), GrowsF.refl _ _⟩
theorem createE_err {T : Tr} {d : Nd} {name : ByteArray} {perm m : Nat} {who : ByteArray} {now : Nat} (hl : look T.L d.path = some d) (h : createE T d name perm m who ≠ 0) : createT T d.path name perm m who now = (T, Qi.zero, createE T d name perm m who) := by
  unfold createT; rw [hl]; exact if_pos h
set_option maxHeartbeats 16000000 in
set_option maxRecDepth 100000 in
theorem pcreate_any {w : World} {ρ : Nat → Role} {b mb cnt : Nat} {T : Tr} {am : Nat → Nat} {vk : Nat → Value} (h : PTreeP w ρ b mb cnt T am vk) (hwf : WF T) (hcnt : cnt < 1000000) (p : Nat) (name : ByteArray) (perm m : Nat) (who : ByteArray) (now : Nat) (hp : p < 18446744073709551616) (hp32 : perm < 4294967296) (hm : m < 256) (hnm : name.size ≤ 65536) (hwh : who.size ≤ 65536) (hlast : T.last + 1 < 18446744073709551616) (hTb : Tabs w) :
    Calls Tryz.prog 22 #[.pointer (some ⟨b, 0, none⟩), .int .u64 p, .string name, .int .u32 perm, .int .u8 m, .string who, .int .u32 now] w fun e w' => PCst b mb cnt ρ (createT T p name perm m who now) w e w' := by
  obtain ⟨W0, hW0⟩ : ∃ W0, (((((w.alloc (.cells #[.pointer (some ⟨b, 0, none⟩)] 26)).alloc (.cells #[.string name] 9)).alloc (.cells #[.int .u32 perm] 22)).alloc (.cells #[.int .u8 m] 5)).alloc (.cells #[.string who] 9)).alloc (.cells #[.int .u8 0, .int .u32 0, .int .u64 0] 35) = W0 := ⟨_, rfl⟩
  have hsz : W0.heap.size = w.heap.size + 6 := by subst hW0; simp
  have hb0 : BoxA W0 w.heap.size (ptr b) 26 := by subst hW0; exact alloc_keep (alloc_keep (alloc_keep (alloc_keep (alloc_keep (new_at _ _)))))
  have hb1 : BoxA W0 (w.heap.size + 1) (.string name) 9 := by subst hW0; exact alloc_keep (alloc_keep (alloc_keep (alloc_keep (new_at' _ _ _ (by simp)))))
  have hb2 : BoxA W0 (w.heap.size + 1 + 1) (.int .u32 perm) 22 := by subst hW0; exact alloc_keep (alloc_keep (alloc_keep (new_at' _ _ _ (by simp))))
  have hb3 : BoxA W0 (w.heap.size + 1 + 1 + 1) (.int .u8 m) 5 := by subst hW0; exact alloc_keep (alloc_keep (new_at' _ _ _ (by simp)))
  have hb4 : BoxA W0 (w.heap.size + 1 + 1 + 1 + 1) (.string who) 9 := by subst hW0; exact alloc_keep (new_at' _ _ _ (by simp))
  have hbz : W0.heap[w.heap.size + 1 + 1 + 1 + 1 + 1]? = some (qiO Qi.zero) := by subst hW0; exact new_at' _ _ _ (by simp)
  have M0 : Mod (fun _ => False) w W0 := by subst hW0; exact (((((((Mod.refl _ w).alloc _).alloc _).alloc _).alloc _).alloc _).alloc _)
  have H0 := h.mod0 M0
  have hG := pget_any H0 p hp
  have c0 : W0.cell? ⟨w.heap.size, 0, none⟩ = some (.pointer (some ⟨b, 0, none⟩)) := hb0.cell
  cases hl : look T.L p with
  | none =>
    have e1 : ptrV T.L am p = .pointer none := by unfold ptrV; rw [hl]
    have HV : Hid (createT T p name perm m who now = (T, Qi.zero, 180)) := by show _ = _; unfold createT; rw [hl]
    rw [e1, hl] at hG
    simp only [Option.isSome_none, Bool.false_eq_true, if_false] at hG
    obtain ⟨W1, hW1⟩ : ∃ W1, W0.alloc (.cells #[.pointer none] 75) = W1 := ⟨_, rfl⟩
    have hn1 : W1.heap[w.heap.size + 6]? = some (.cells #[.pointer none] 75 (0, 0)) := by subst hW1; exact new_at' _ _ _ hsz.symm
    have q1 : W1.cell? ⟨w.heap.size + 6, 0, none⟩ = some (.pointer none) := (cell_of hn1 0).trans rfl
    have q2 : W1.frozen? ⟨w.heap.size + 6, 0, none⟩ = false := free_of hn1 0
    have q3 : W1.setCell ⟨w.heap.size + 6, 0, none⟩ (.pointer none) = W1 := setCell_idR hn1 rfl
    have HZ : Hid (W1.heap[w.heap.size + 1 + 1 + 1 + 1 + 1]? = some (qiO Qi.zero)) := by subst hW1; exact alloc_keep hbz
    have M1 : Hid (Mod (fun _ => False) w W1) := by subst hW1; exact M0.alloc _
    have H := Lib.hid h
    clear hn1 hb0 hb1 hb2 hb3 hb4 hbz H0 h hwf e1 hl
    go_enter Tryz.func22, Tryz.ntmps22
    go_wp2_with fail
    clear hW0
    refine hG.mono ?_
    rintro e w1 ⟨rfl, rfl⟩
    go_upto_region 3 with (fail)
    clear hW1
    refine wp_region_lit ?_
    iterate 2
      refine wpList_plain rfl fun K hK => ?_
      go_simp
      refine hK _ _ ?_
      clear hK K
    refine wpl_store_row rfl 35 (.tmp 14) (.tmp 31) rfl rfl (w.heap.size + 1 + 1 + 1 + 1 + 1) (qiC Qi.zero) rfl rfl 35 _ HZ.out rfl (qi_one _) (by kernel_rfl) ?_
    intro V9 hv9 mv9
    refine wpList_plain rfl fun K hK => ?_
    go_simp
    refine hK _ _ ?_
    clear hK K
    refine wpList_nil ?_
    have MV : Hid (Mod (fun _ => False) w V9) := (M1.out).trans' mv9 fun k hk e => by omega
    go_wp2
    refine bodyPost_ret (results_cell2 rfl _ _ V9 (w.heap.size + 1 + 1 + 1 + 1 + 1) (qiC Qi.zero) _ rfl (qi_rng hv9) Tryz.underlying35 rfl (by kernel_rfl)) rfl ?_
    exact PCst.err HV.out H.out MV.out
  | some d =>
    obtain ⟨hdm, hdp⟩ := look_some hl
    subst hdp
    have e1 : ptrV T.L am d.path = .pointer (some ⟨am d.path, 0, none⟩) := by unfold ptrV; rw [hl]
    rw [e1, hl] at hG
    simp only [Option.isSome_some, if_true] at hG
    obtain ⟨isD, hisD⟩ : ∃ x, decide (2147483648 ≤ perm) = x := ⟨_, rfl⟩
    have z31 : bits .and .u32 (perm : Int) 2147483648 = ((perm &&& 2147483648 : Nat) : Int) := u32_and_nat perm 2147483648 hp32 (by decide)
    have hTp := and_top hp32
    have t2 : (((perm &&& 2147483648 : Nat) : Int) != 0) = isD := by
      rw [← hisD, hTp, Bool.eq_iff_iff]
      by_cases hx : 2147483648 ≤ perm
      · simp [hx]
      · simp [hx]
    have hfe := createE_first T d name perm m who 53 55 57 58 60 62 #[ptr (w.heap.size + 6)] #[ptr (w.heap.size + 6), ptr (w.heap.size + 1 + 1 + 1 + 1)] #[ptr (w.heap.size + 1), ptr (w.heap.size + 1 + 1 + 1 + 1)] #[ptr (w.heap.size + 1 + 1), ptr (w.heap.size + 1 + 1 + 1), ptr (w.heap.size + 7)] #[ptr w.heap.size, ptr (w.heap.size + 6), ptr (w.heap.size + 1)] #[ptr w.heap.size, ptr (w.heap.size + 6)]
    rw [hisD] at hfe
    obtain ⟨W1, hW1⟩ : ∃ W1, W0.alloc (.cells #[.pointer (some ⟨am d.path, 0, none⟩)] 75) = W1 := ⟨_, rfl⟩
    have hsz1 : W1.heap.size = w.heap.size + 7 := by subst hW1; rw [World.size_alloc, hsz]
    have hn1 : BoxA W1 (w.heap.size + 6) (ptr (am d.path)) 75 := by subst hW1; exact new_at' _ _ _ hsz.symm
    have M1 : Mod (fun _ => False) W0 W1 := by subst hW1; exact (Mod.refl _ _).alloc _
    obtain ⟨W2, hW2⟩ : ∃ W2, W1.alloc (.cells #[.bool isD] 4) = W2 := ⟨_, rfl⟩
    have hsz2 : W2.heap.size = w.heap.size + 8 := by subst hW2; rw [World.size_alloc, hsz1]
    have hn2 : BoxA W2 (w.heap.size + 7) (.bool isD) 4 := by subst hW2; exact new_at' _ _ _ hsz1.symm
    have M2 : Mod (fun _ => False) W1 W2 := by subst hW2; exact (Mod.refl _ _).alloc _
    obtain ⟨W3, hW3⟩ : ∃ W3, W2.alloc (.cells #[.func (.func 53) #[] #[ptr (w.heap.size + 6)], .int .i64 181, .func (.func 55) #[] #[ptr (w.heap.size + 6), ptr (w.heap.size + 1 + 1 + 1 + 1)], .int .i64 182, .func (.func 57) #[] #[ptr (w.heap.size + 1), ptr (w.heap.size + 1 + 1 + 1 + 1)], .int .i64 183, .func (.func 58) #[] #[ptr (w.heap.size + 1 + 1), ptr (w.heap.size + 1 + 1 + 1), ptr (w.heap.size + 7)], .int .i64 186, .func (.func 60) #[] #[ptr w.heap.size, ptr (w.heap.size + 6), ptr (w.heap.size + 1)], .int .i64 184, .func (.func 62) #[] #[ptr w.heap.size, ptr (w.heap.size + 6)], .int .i64 6] 95) = W3 := ⟨_, rfl⟩
    have hask := new_at' W2 (.cells #[.func (.func 53) #[] #[ptr (w.heap.size + 6)], .int .i64 181, .func (.func 55) #[] #[ptr (w.heap.size + 6), ptr (w.heap.size + 1 + 1 + 1 + 1)], .int .i64 182, .func (.func 57) #[] #[ptr (w.heap.size + 1), ptr (w.heap.size + 1 + 1 + 1 + 1)], .int .i64 183, .func (.func 58) #[] #[ptr (w.heap.size + 1 + 1), ptr (w.heap.size + 1 + 1 + 1), ptr (w.heap.size + 7)], .int .i64 186, .func (.func 60) #[] #[ptr w.heap.size, ptr (w.heap.size + 6), ptr (w.heap.size + 1)], .int .i64 184, .func (.func 62) #[] #[ptr w.heap.size, ptr (w.heap.size + 6)], .int .i64 6] 95) _ hsz2.symm
    rw [hW3] at hask
    have M3 : Mod (fun _ => False) W2 W3 := by subst hW3; exact (Mod.refl _ _).alloc _
    have M23 := M2.trans M3
    have M13 := M1.trans M23
    have M := M0.trans M13
    have HT := h.mod0 M
    have hno := hwf.ok d hdm
    obtain ⟨l, hlq⟩ : ∃ l : List Ask, l = [⟨53, #[ptr (w.heap.size + 6)], 181, !d.dir⟩, ⟨55, #[ptr (w.heap.size + 6), ptr (w.heap.size + 1 + 1 + 1 + 1)], 182, !mayB d who 2⟩, ⟨57, #[ptr (w.heap.size + 1), ptr (w.heap.size + 1 + 1 + 1 + 1)], 183, !nameOk name || !userOk who⟩, ⟨58, #[ptr (w.heap.size + 1 + 1), ptr (w.heap.size + 1 + 1 + 1), ptr (w.heap.size + 7)], 186, decide (perm &&& 2147483136 ≠ 0) || !modeB m || (isD && decide (m ≠ 0))⟩, ⟨60, #[ptr w.heap.size, ptr (w.heap.size + 6), ptr (w.heap.size + 1)], 184, (kidOf T.L d name).isSome⟩, ⟨62, #[ptr w.heap.size, ptr (w.heap.size + 6)], 6, decide (1024 ≤ T.L.length) || decide (112 ≤ cntOf d)⟩] := ⟨_, rfl⟩
    have hF := pfirst_any l (w.heap.size + 8) 6 W3 (by rw [hlq]; exact (by decide : 6 ≤ 1000)) (by rw [hlq]; exact Nat.le_refl 6)
      (fun j hj => by
        subst hlq
        have hj4 : j < 6 := hj
        rcases j with _ | _ | _ | _ | _ | _ | j
        · exact ⟨cell_of hask 0, cell_of hask 1⟩
        · exact ⟨cell_of hask 2, cell_of hask 3⟩
        · exact ⟨cell_of hask 4, cell_of hask 5⟩
        · exact ⟨cell_of hask 6, cell_of hask 7⟩
        · exact ⟨cell_of hask 8, cell_of hask 9⟩
        · exact ⟨cell_of hask 10, cell_of hask 11⟩
        · omega)
      (fun a ha => by
        subst hlq
        simp only [List.mem_cons, List.not_mem_nil, or_false] at ha
        rcases ha with rfl | rfl | rfl | rfl | rfl | rfl
        · exact enters_of Tryz.func53 (by kernel_rfl) rfl
        · exact enters_of Tryz.func55 (by kernel_rfl) rfl
        · exact enters_of Tryz.func57 (by kernel_rfl) rfl
        · exact enters_of Tryz.func58 (by kernel_rfl) rfl
        · exact enters_of Tryz.func60 (by kernel_rfl) rfl
        · exact enters_of Tryz.func62 (by kernel_rfl) rfl)
      (fun a ha U hU => by
        have HU := HT.mod0 hU
        have k0 := (hb0.mod M13).mod hU
        have k1 := (hb1.mod M13).mod hU
        have k2 := (hb2.mod M13).mod hU
        have k3 := (hb3.mod M13).mod hU
        have k4 := (hb4.mod M13).mod hU
        have k6 := (hn1.mod M23).mod hU
        have k7 := (hn2.mod M3).mod hU
        have kn := HU.node d hdm
        subst hlq
        simp only [List.mem_cons, List.not_mem_nil, or_false] at ha
        rcases ha with rfl | rfl | rfl | rfl | rfl | rfl
        · exact (pC1 k6 kn).mono fun e w' he => ⟨he.1, he.2 ▸ Mod.refl _ _⟩
        · exact (pC2 k6 k4 kn hno.perm).mono fun e w' he => ⟨he.1, he.2 ▸ Mod.refl _ _⟩
        · exact pC3 k1 k4 hnm hwh ((hTb.mod M).mod hU)
        · exact (pC4 k2 k3 k7 hp32 hm).mono fun e w' he => ⟨he.1, he.2 ▸ Mod.refl _ _⟩
        · exact pC5 HU hwf hdm k0 k6 k1
        · exact pC6 HU hwf hdm k0 k6)
    rw [hlq, hfe] at hF
    have c1 : W1.cell? ⟨w.heap.size + 1 + 1, 0, none⟩ = some (.int .u32 perm) := (hb2.mod M1).cell
    have HZ3 : Hid (W3.heap[w.heap.size + 1 + 1 + 1 + 1 + 1]? = some (qiO Qi.zero)) := (M13.block _ (lt_of hbz) (fun x => x)).trans hbz
    have K0 := Lib.hid (hb0.mod M13)
    have K1 := Lib.hid (hb1.mod M13)
    have K2 := Lib.hid (hb2.mod M13)
    have K4 := Lib.hid (hb4.mod M13)
    have K6 := Lib.hid (hn1.mod M23)
    have K7 := Lib.hid (hn2.mod M3)
    have HM := Lib.hid M
    have HT := Lib.hid HT
    have Hh := Lib.hid h
    have HWF := Lib.hid hwf
    have HDm := Lib.hid hdm
    have HL := Lib.hid hl
    have HisD := Lib.hid hisD
    clear hb0 hb1 hb2 hb3 hb4 hbz hn1 hn2 H0 h hask M0 M1 M2 M3 M23 M13 M hwf e1 hno hfe hdm hl hisD hTp
    clear hlq l
    unfold ptr at hW3
    go_enter Tryz.func22, Tryz.ntmps22
    go_wp2_with fail
    clear hW0
    refine hG.mono ?_
    rintro e w1 ⟨rfl, rfl⟩
    go_wp2_with fail
    clear hW1 hW2 hW3
    refine hF.mono ?_
    rintro e V ⟨rfl, mV⟩
    clear hF hG c0 c1 z31 t2
    have HZ5 : Hid (V.heap[w.heap.size + 1 + 1 + 1 + 1 + 1]? = some (qiO Qi.zero)) := (mV.block _ (lt_of HZ3.out) (fun x => x)).trans HZ3.out
    have MV0 : Hid (Mod (fun _ => False) w V) := HM.out.trans mV
    have K0 := Lib.hid (K0.out.mod mV)
    have K1 := Lib.hid (K1.out.mod mV)
    have K2 := Lib.hid (K2.out.mod mV)
    have K4 := Lib.hid (K4.out.mod mV)
    have K6 := Lib.hid (K6.out.mod mV)
    have K7 := Lib.hid (K7.out.mod mV)
    have HT5 := Lib.hid (HT.out.mod0 mV)
    have HVs : Hid (w.heap.size + 8 ≤ V.heap.size) := by have := lt_of K7.out; show _ ≤ _; omega
    clear HT HZ3 HM mV
    by_cases he : createE T d name perm m who = 0
    · have t3 : (createE T d name perm m who != 0) = false := by simp [he]
      obtain ⟨hz1, _, _, _, hz5, hz6, hz7, hz8⟩ := createE_zero (fun x => x he)
      obtain ⟨la, hla⟩ : ∃ la, T.last + 1 = la := ⟨_, rfl⟩
      obtain ⟨nd, hnd⟩ : ∃ nd, newNd T d name perm who now = nd := ⟨_, rfl⟩
      have HV : Hid (createT T d.path name perm m who now = (⟨updN T.L d.path (fun d => Nd.touch { d with kids := putKid d.kids la } who now) ++ [nd], la⟩, qidOf nd, 0)) := by
        show _ = _
        unfold createT; rw [HL.out, ← hla, ← hnd]
        exact if_neg (fun x => x he)
      clear he
      have hwr : IntKind.u64.wrap ((T.last : Int) + 1) = (la : Int) := by rw [IntKind.wrap_u64]; omega
      have hla64 : la < 18446744073709551616 := by omega
      have hbl : b < w.heap.size := lt_of Hh.out.obj
      have hal : am d.path < w.heap.size := lt_of (Hh.out.node d HDm.out)
      have hab : am d.path ≠ b := fun e => by have := Hh.out.rb; rw [← e, Hh.out.rn d HDm.out] at this; cases this
      obtain ⟨H1, m1F⟩ := HT5.out.setLast la
      have m1 : Mod (· = b) V (V.setCell ⟨b, 1, none⟩ (.int .u64 la)) := Mod.set1 V b 1 _
      obtain ⟨V1, hV1⟩ : ∃ V1, V.setCell ⟨b, 1, none⟩ (.int .u64 la) = V1 := ⟨_, rfl⟩
      rw [hV1] at H1 m1F m1
      have c0 : V.cell? ⟨w.heap.size, 0, none⟩ = some (.pointer (some ⟨b, 0, none⟩)) := K0.out.cell
      have cl : V.cell? ⟨b, 1, none⟩ = some (.int .u64 T.last) := HT5.out.c1
      have fl : V.frozen? ⟨b, 1, none⟩ = false := free_of HT5.out.obj 1
      have d0 : V1.cell? ⟨w.heap.size, 0, none⟩ = some (.pointer (some ⟨b, 0, none⟩)) := keepX m1 (by omega) c0
      have dl : V1.cell? ⟨b, 1, none⟩ = some (.int .u64 la) := H1.c1
      have d7 : V1.cell? ⟨w.heap.size + 7, 0, none⟩ = some (.bool isD) := keepX m1 (by omega) K7.out.cell
      have H1 := Lib.hid H1
      have M1F := Lib.hid m1F
      have M1 := Lib.hid m1
      have HND := Lib.hid hnd
      have HLA := Lib.hid hla
      have HZ56 := Lib.hid (And.intro hz5 hz6)
      clear hz1 hz5 hz6 m1 m1F hnd hla
      go_upto_region 9 with (fail)
      clear hV1 c0 cl fl hwr
      refine wp_region_held_drew (S := fun w' => Hid (Mod (fun _ => False) V1 w')) (by kernel_rfl) (Lib.hid (Mod.refl (fun _ => False) V1).drew) (fun hHeld => ?_)
      refine hT 0 rfl (fun wH hSw => by have cH := keepN hSw.out d0; clear hSw; go_simp; all_goals with_reducible rfl) ?_
      try simp only [gA, gB, gC, Act.put, sA, sB, sC]
      refine hT 1 rfl (fun _ _ => by go_simp; all_goals with_reducible rfl) ?_
      try simp only [gA, gB, gC, Act.put, sA, sB, sC]
      refine hT 2 rfl (fun _ _ => by go_simp; all_goals with_reducible rfl) ?_
      try simp only [gA, gB, gC, Act.put, sA, sB, sC]
      refine hT 3 rfl (fun wH hSw => by have cH := keepN hSw.out dl; clear hSw; go_simp; all_goals with_reducible rfl) ?_
      try simp only [gA, gB, gC, Act.put, sA, sB, sC]
      refine hT 4 rfl (fun _ _ => by go_simp; all_goals with_reducible rfl) ?_
      try simp only [gA, gB, gC, Act.put, sA, sB, sC]
      refine hR1 5 rfl fun K hK => ?_
      go_simp
      have mA := hHeld.out.alloc (.cells #[.int .u8 0, .int .u32 0, .int .u64 0] 35)
      have hzq : (V1.drew.alloc (.cells #[.int .u8 0, .int .u32 0, .int .u64 0] 35)).heap[V1.heap.size]? = some (qiO Qi.zero) := new_at V1.drew _
      refine hK.out _ _ (Lib.hid (mA)) ?_; clear hK K hHeld; intro hHeld
      try simp only [gA, gB, gC, Act.put, sA, sB, sC]
      refine hT 6 rfl (fun _ _ => by go_simp; all_goals with_reducible rfl) ?_
      try simp only [gA, gB, gC, Act.put, sA, sB, sC]
      refine hR1 7 rfl fun K hK => ?_
      refine Eq.mpr (if_pos ?hwant) ?_
      case hwant => rfl
      refine wp_store_row 35 (.tmp 20) (.tmp 65) rfl V1.heap.size (qiC ⟨0, 0, la⟩).toArray rfl rfl 35 _ hzq (by kernel_rfl) rfl (qi_all _) ?_
      have hb9 := setRow_heap _ V1.heap.size _ (qiC ⟨0, 0, la⟩).toArray 35 _ hzq
      have m9 := mod_setRow (V1.drew.alloc (.cells #[.int .u8 0, .int .u32 0, .int .u64 0] 35)) V1.heap.size (qiC ⟨0, 0, la⟩).toArray
      have m9 : Mod (fun _ => False) V1 _ := hHeld.out.trans' m9 fun k hk e => by omega
      refine hK.out _ _ (Lib.hid (m9)) ?_; clear hK K hHeld; intro hHeld
      try simp only [gA, gB, gC, Act.put, sA, sB, sC]
      refine wpAnyH_done (by kernel_rfl) ?_ _
      have M9 : Hid (Mod (fun _ => False) V1 ((V1.alloc (.cells #[.int .u8 0, .int .u32 0, .int .u64 0] 35)).drew.setRow V1.heap.size (qiC ⟨0, 0, la⟩).toArray)) := hHeld.out
      have HQ9 : Hid (((V1.alloc (.cells #[.int .u8 0, .int .u32 0, .int .u64 0] 35)).drew.setRow V1.heap.size (qiC ⟨0, 0, la⟩).toArray).heap[V1.heap.size]? = some (qiO ⟨0, 0, la⟩)) := hb9
      generalize (V1.alloc (.cells #[.int .u8 0, .int .u32 0, .int .u64 0] 35)).drew.setRow V1.heap.size (qiC ⟨0, 0, la⟩).toArray = W9 at *
      clear hHeld hb9 m9 mA hzq d0 dl
      have g7 : W9.cell? ⟨w.heap.size + 7, 0, none⟩ = some (.bool isD) := keepN M9.out d7
      clear d7
      obtain ⟨bq, hbq⟩ : ∃ bq, V1.heap.size = bq := ⟨_, rfl⟩
      rw [hbq] at HQ9
      simp only [hbq]
      have HBq := Lib.hid hbq
      clear hbq
      have y0 : W9.cell? ⟨bq, 0, none⟩ = some (.int .u8 0) := (cell_of HQ9.out 0).trans rfl
      have yf : W9.frozen? ⟨bq, 0, none⟩ = false := free_of HQ9.out 0
      obtain ⟨mk, hmk⟩ : ∃ mk : Nat, (if isD = true then 511 else 438) = mk := ⟨_, rfl⟩
      go_upto_if 66 with (fail)
      go_cut [19] from 66 to 67 (fun v wc => v = .int .u32 mk ∧ Hid (wc.heap[bq]? = some (qiO (qidOf nd))) ∧ Hid (Mod (fun _ => False) V1 wc))
      case first =>
        have HID : Hid (nd.dir = isD) := by show _ = _; rw [← HND.out]; exact HisD.out
        have HQI : Hid (qidOf nd = ⟨if isD = true then 128 else 0, 0, la⟩) := by
          show qidOf nd = _
          rw [← HND.out]
          unfold qidOf newNd
          rw [HLA.out]
          simp only
          rw [HisD.out]
        cases isD with
        | true =>
          have HF : Hid ((W9.setCell ⟨bq, 0, none⟩ (.int .u8 128)).heap[bq]? = some (qiO (qidOf nd))) := by
            show _ = _
            rw [HQI.out]
            exact heap_set HQ9.out 0 _
          have HMF : Hid (Mod (fun _ => False) V1 (W9.setCell ⟨bq, 0, none⟩ (.int .u8 128))) := M9.out.trans' (Mod.set1 W9 bq 0 _) fun k hk e => by rw [← HBq.out] at e; omega
          go_wp2
          go_meet
          case rel => exact ⟨by rw [← hmk]; rfl, HF.out, HMF.out⟩
        | false =>
          have HF : Hid (W9.heap[bq]? = some (qiO (qidOf nd))) := by
            show _ = _
            rw [HQI.out]
            exact HQ9.out
          go_wp2
          go_meet
          case rel => exact ⟨by rw [← hmk]; rfl, HF.out, M9.out⟩
      case rest =>
        obtain ⟨rfl, HQ, HMc⟩ := hcut
        clear g7 y0 yf HQ9 M9
        have Hc := Lib.hid (H1.out.mod0 HMc.out)
        have k1 := keepN HMc.out (keepX M1.out (by omega) K1.out.cell)
        have k2 := keepN HMc.out (keepX M1.out (by omega) K2.out.cell)
        have k4 := keepN HMc.out (keepX M1.out (by omega) K4.out.cell)
        have k6 := keepN HMc.out (keepX M1.out (by omega) K6.out.cell)
        have k0 := keepN HMc.out (keepX M1.out (by omega) K0.out.cell)
        unfold ptr at k6 k0
        have e5 : wc.cell? ⟨am d.path, 5, none⟩ = some (.int .u32 (modeOf d)) := (cell_of (Hc.out.node d HDm.out) 5).trans rfl
        have e11 : wc.cell? ⟨am d.path, 11, none⟩ = some (.string d.gid) := (cell_of (Hc.out.node d HDm.out) 11).trans rfl
        obtain ⟨qt, hqt⟩ : ∃ qt : Nat, (if isD = true then 128 else 0) = qt := ⟨_, rfl⟩
        have hqn : qidOf nd = ⟨qt, 0, la⟩ := by
          rw [← HND.out, ← hqt]
          unfold qidOf newNd
          rw [HLA.out]
          simp only
          rw [HisD.out]
        have HQN := Lib.hid hqn
        rw [hqn] at HQ
        have hrow : ∀ U, Mod (fun _ => False) wc U → U.rangeAt bq 0 [.int .u8 qt, .int .u32 0, .int .u64 la] := fun U hU => qi_rng (q := ⟨qt, 0, la⟩) ((hU.block _ (lt_of HQ.out) (fun x => x)).trans HQ.out)
        have hdo := HWF.out.ok d HDm.out
        have hmd : modeOf d < 4294967296 := by have := hdo.perm; unfold modeOf; split <;> omega
        have zm1 : bits .and .u32 (modeOf d : Int) 511 = (d.perm : Int) := (u32_and_nat (modeOf d) 511 hmd (by decide)).trans (by rw [mode_perm hdo.perm])
        have hmk2 : mk < 4294967296 := by rw [← hmk]; split <;> decide
        have zm2 := u32_andNot_nat mk d.perm hmk2 (by have := hdo.perm; omega)
        have hle : mk &&& (4294967295 - d.perm) ≤ mk := Nat.and_le_left
        have zm3 := u32_andNot_nat perm (mk &&& (4294967295 - d.perm)) hp32 (by omega)
        have hnm2 : perm &&& (4294967295 - (mk &&& (4294967295 - d.perm))) = modeOf nd := by
          have := new_mode (perm := perm) (dp := d.perm) (isD := isD) hp32 HZ56.out.1 HisD.out.symm
          rw [hmk] at this
          rw [this, ← HND.out]
          unfold modeOf newNd
          simp only
          rw [HisD.out]
        rw [hnm2] at zm3
        obtain ⟨mo, hmo⟩ : ∃ mo, modeOf nd = mo := ⟨_, rfl⟩
        rw [hmo] at zm3
        obtain ⟨xx, hxx⟩ : ∃ xx, mk &&& (4294967295 - d.perm) = xx := ⟨_, rfl⟩
        rw [hxx] at zm2 zm3
        have HMO := Lib.hid hmo
        have HQT := Lib.hid hqt
        have HMK := Lib.hid hmk
        clear hqn hmd hmk2 hle hnm2 hmo hxx hqt hmk hdo
        generalize modeOf d = md at *
        go_upto_region 12 with (fail)
        refine wp_region_held_drew (S := fun w' => Hid (Mod (fun _ => False) wc w')) (by kernel_rfl) (Lib.hid (Mod.refl (fun _ => False) wc).drew) (fun hHeld => ?_)
        refine hTy 0 rfl (by kernel_rfl) (fun _ _ _ h => h) (by assumption) (yieldsIf_load_mid (by rfl) 35 (.tmp 20) rfl bq 0 rfl [.int .u8 qt, .int .u32 0, .int .u64 la] _ (fun wH hSw => hrow wH hSw.out) Tryz.underlying35 rfl (by kernel_rfl)) ?_
        try simp only [gA, gB, gC, Act.put, sA, sB, sC]
        refine hT 1 rfl (fun wH hSw => by have cH := keepN hSw.out k2; clear hSw; go_simp; all_goals with_reducible rfl) ?_
        try simp only [gA, gB, gC, Act.put, sA, sB, sC]
        refine hT 2 rfl (fun _ _ => by go_simp; all_goals with_reducible rfl) ?_
        try simp only [gA, gB, gC, Act.put, sA, sB, sC]
        refine hT 3 rfl (fun wH hSw => by have cH := keepN hSw.out k6; clear hSw; go_simp; all_goals with_reducible rfl) ?_
        try simp only [gA, gB, gC, Act.put, sA, sB, sC]
        refine hT 4 rfl (fun _ _ => by go_simp; all_goals with_reducible rfl) ?_
        try simp only [gA, gB, gC, Act.put, sA, sB, sC]
        refine hT 5 rfl (fun _ _ => by go_simp; all_goals with_reducible rfl) ?_
        try simp only [gA, gB, gC, Act.put, sA, sB, sC]
        refine hT 6 rfl (fun _ _ => by go_simp; all_goals with_reducible rfl) ?_
        try simp only [gA, gB, gC, Act.put, sA, sB, sC]
        refine hT 7 rfl (fun wH hSw => by have cH := keepN hSw.out e5; clear hSw; go_simp; all_goals with_reducible rfl) ?_
        try simp only [gA, gB, gC, Act.put, sA, sB, sC]
        refine hT 8 rfl (fun _ _ => by go_simp; all_goals with_reducible rfl) ?_
        try simp only [gA, gB, gC, Act.put, sA, sB, sC]
        refine hT 9 rfl (fun _ _ => by go_simp; all_goals with_reducible rfl) ?_
        try simp only [gA, gB, gC, Act.put, sA, sB, sC]
        refine hT 10 rfl (fun _ _ => by go_simp; all_goals with_reducible rfl) ?_
        try simp only [gA, gB, gC, Act.put, sA, sB, sC]
        refine hT 11 rfl (fun _ _ => by go_simp; all_goals with_reducible rfl) ?_
        try simp only [gA, gB, gC, Act.put, sA, sB, sC]
        refine hT 12 rfl (fun _ _ => by go_simp; all_goals with_reducible rfl) ?_
        try simp only [gA, gB, gC, Act.put, sA, sB, sC]
        refine hT 13 rfl (fun wH hSw => by have cH := keepN hSw.out k1; clear hSw; go_simp; all_goals with_reducible rfl) ?_
        try simp only [gA, gB, gC, Act.put, sA, sB, sC]
        refine hT 14 rfl (fun wH hSw => by have cH := keepN hSw.out k4; clear hSw; go_simp; all_goals with_reducible rfl) ?_
        try simp only [gA, gB, gC, Act.put, sA, sB, sC]
        refine hT 15 rfl (fun wH hSw => by have cH := keepN hSw.out k6; clear hSw; go_simp; all_goals with_reducible rfl) ?_
        try simp only [gA, gB, gC, Act.put, sA, sB, sC]
        refine hT 16 rfl (fun _ _ => by go_simp; all_goals with_reducible rfl) ?_
        try simp only [gA, gB, gC, Act.put, sA, sB, sC]
        refine hT 17 rfl (fun _ _ => by go_simp; all_goals with_reducible rfl) ?_
        try simp only [gA, gB, gC, Act.put, sA, sB, sC]
        refine hT 18 rfl (fun _ _ => by go_simp; all_goals with_reducible rfl) ?_
        try simp only [gA, gB, gC, Act.put, sA, sB, sC]
        refine hT 19 rfl (fun wH hSw => by have cH := keepN hSw.out e11; clear hSw; go_simp; all_goals with_reducible rfl) ?_
        try simp only [gA, gB, gC, Act.put, sA, sB, sC]
        refine hT 20 rfl (fun wH hSw => by have cH := keepN hSw.out k4; clear hSw; go_simp; all_goals with_reducible rfl) ?_
        try simp only [gA, gB, gC, Act.put, sA, sB, sC]
        refine hT 21 rfl (fun _ _ => by go_simp; all_goals with_reducible rfl) ?_
        try simp only [gA, gB, gC, Act.put, sA, sB, sC]
        have hone : ∀ u ∈ ([.int .u16 0, .int .u32 0, .int .u8 qt, .int .u32 0, .int .u64 la, .int .u32 mo, .int .u32 now, .int .u32 now, .int .u64 0, .string name, .string who, .string d.gid, .string who] : List Value), u.oneCell' = true := by
          intro u hu
          simp only [List.mem_cons, List.not_mem_nil, or_false] at hu
          rcases hu with rfl | rfl | rfl | rfl | rfl | rfl | rfl | rfl | rfl | rfl | rfl | rfl | rfl <;> rfl
        refine hR1 22 rfl fun K hK => ?_
        go_simp
        have hnb := new_at wc.drew (.cells #[.int .u16 0, .int .u32 0, .int .u8 0, .int .u32 0, .int .u64 0, .int .u32 0, .int .u32 0, .int .u32 0, .int .u64 0, .string { data := #[] }, .string { data := #[] }, .string { data := #[] }, .string { data := #[] }] 37)
        have mA := hHeld.out.alloc (.cells #[.int .u16 0, .int .u32 0, .int .u8 0, .int .u32 0, .int .u64 0, .int .u32 0, .int .u32 0, .int .u32 0, .int .u64 0, .string { data := #[] }, .string { data := #[] }, .string { data := #[] }, .string { data := #[] }] 37)
        refine hK.out _ _ (Lib.hid (mA)) ?_; clear hK K hHeld; intro hHeld
        try simp only [gA, gB, gC, Act.put, sA, sB, sC]
        clear mA
        refine hR1 23 rfl fun K hK => ?_
        refine Eq.mpr (if_pos ?hwant) ?_
        case hwant => rfl
        refine op_store_row 37 (.tmp 21) (.tmp 89) rfl wc.heap.size [.int .u16 0, .int .u32 0, .int .u8 qt, .int .u32 0, .int .u64 la, .int .u32 mo, .int .u32 now, .int .u32 now, .int .u64 0, .string name, .string who, .string d.gid, .string who] rfl rfl 37 _ hnb rfl hone (by kernel_rfl) ?_
        intro W10 hs10 ms10
        have mW10 : Mod (fun _ => False) wc W10 := hHeld.out.trans' ms10 fun k hk e => by omega
        have HS10 : Hid (W10.heap[wc.heap.size]? = some (.cells #[.int .u16 0, .int .u32 0, .int .u8 qt, .int .u32 0, .int .u64 la, .int .u32 mo, .int .u32 now, .int .u32 now, .int .u64 0, .string name, .string who, .string d.gid, .string who] 37 (0, 0))) := hs10
        clear ms10 hs10 hnb
        refine hK.out _ _ (Lib.hid (mW10)) ?_; clear hK K hHeld; intro hHeld
        try simp only [gA, gB, gC, Act.put, sA, sB, sC]
        refine wpAnyH_done (by kernel_rfl) ?_ _
        have M10 := Lib.hid mW10
        clear hHeld mW10 zm1 zm2 zm3 k1 k2 e5 e11 hrow hone
        obtain ⟨bs, hbs⟩ : ∃ bs, wc.heap.size = bs := ⟨_, rfl⟩
        rw [hbs] at HS10
        simp only [hbs]
        have hbsl : w.heap.size + 8 ≤ bs := by have h1 := HMc.out.size; have h2 := M1.out.size; have := HVs.out; omega
        have H10 := Lib.hid (Hc.out.mod0 M10.out)
        have k0 := keepN M10.out k0
        have k6 := keepN M10.out k6
        have k4 := keepN M10.out k4
        have dm : W10.cell? ⟨b, 0, none⟩ = some (.map (some mb)) := H10.out.c0
        have dl : W10.cell? ⟨b, 1, none⟩ = some (.int .u64 la) := H10.out.c1
        have hml : mb < w.heap.size := Hh.out.map.lt
        have hbm : b ≠ mb := fun e => by have := Hh.out.rb; rw [e, Hh.out.rm] at this; cases this
        have hrs : ∀ U, Mod (· = mb) W10 U → U.rangeAt bs 0 [.int .u16 0, .int .u32 0, .int .u8 qt, .int .u32 0, .int .u64 la, .int .u32 mo, .int .u32 now, .int .u32 now, .int .u64 0, .string name, .string who, .string d.gid, .string who] := fun U hU j u hu => by
          rw [Nat.zero_add, cell_of ((hU.block _ (lt_of HS10.out) (by omega)).trans HS10.out), List.getElem?_toArray]; exact hu
        go_upto_region 13 with (fail)
        refine wp_region_held_drew (S := fun w' => Hid (Mod (· = mb) W10 w')) (by kernel_rfl) (Lib.hid (Mod.refl (· = mb) W10).drew) (fun hHeld => ?_)
        refine hT 0 rfl (fun wH hSw => by have cH := keepX hSw.out (by omega) k0; clear hSw; go_simp; all_goals with_reducible rfl) ?_
        try simp only [gA, gB, gC, Act.put, sA, sB, sC]
        refine hT 1 rfl (fun _ _ => by go_simp; all_goals with_reducible rfl) ?_
        try simp only [gA, gB, gC, Act.put, sA, sB, sC]
        refine hT 2 rfl (fun _ _ => by go_simp; all_goals with_reducible rfl) ?_
        try simp only [gA, gB, gC, Act.put, sA, sB, sC]
        refine hT 3 rfl (fun wH hSw => by have cH := keepX hSw.out (by omega) dm; clear hSw; go_simp; all_goals with_reducible rfl) ?_
        try simp only [gA, gB, gC, Act.put, sA, sB, sC]
        refine hT 4 rfl (fun wH hSw => by have cH := keepX hSw.out (by omega) k0; clear hSw; go_simp; all_goals with_reducible rfl) ?_
        try simp only [gA, gB, gC, Act.put, sA, sB, sC]
        refine hT 5 rfl (fun _ _ => by go_simp; all_goals with_reducible rfl) ?_
        try simp only [gA, gB, gC, Act.put, sA, sB, sC]
        refine hT 6 rfl (fun _ _ => by go_simp; all_goals with_reducible rfl) ?_
        try simp only [gA, gB, gC, Act.put, sA, sB, sC]
        refine hT 7 rfl (fun wH hSw => by have cH := keepX hSw.out (by omega) dl; clear hSw; go_simp; all_goals with_reducible rfl) ?_
        try simp only [gA, gB, gC, Act.put, sA, sB, sC]
        refine hTy 8 rfl (by kernel_rfl) (fun _ _ _ h => h) (by assumption) (yieldsIf_load_mid (by rfl) 37 (.tmp 21) rfl bs 0 rfl [.int .u16 0, .int .u32 0, .int .u8 qt, .int .u32 0, .int .u64 la, .int .u32 mo, .int .u32 now, .int .u32 now, .int .u64 0, .string name, .string who, .string d.gid, .string who] _ (fun wH hSw => hrs wH hSw.out) Tryz.underlying37 rfl (by kernel_rfl)) ?_
        try simp only [gA, gB, gC, Act.put, sA, sB, sC]
        refine hT 9 rfl (fun _ _ => by go_simp; all_goals with_reducible rfl) ?_
        try simp only [gA, gB, gC, Act.put, sA, sB, sC]
        refine hT 10 rfl (fun _ _ => by go_simp; all_goals with_reducible rfl) ?_
        try simp only [gA, gB, gC, Act.put, sA, sB, sC]
        refine hR1 11 rfl fun K hK => ?_
        go_simp
        have hnf : nd = ⟨la, isD, 0, newPerm isD perm d.perm, who, d.gid, who, now, now, d.path, name, ByteArray.empty, []⟩ := by
          rw [← HND.out]
          unfold newNd
          rw [HLA.out, HisD.out]
        have hpn : (Obj.cells #[.int .u16 0, .int .u32 0, .int .u8 qt, .int .u32 0, .int .u64 la, .int .u32 mo, .int .u32 now, .int .u32 now, .int .u64 0, .string name, .string who, .string d.gid, .string who, .int .u64 d.path, .string { data := #[] }, .slice none 0 0] 78 (0, 0)) = pnO nd (.slice none 0 0) := by
          unfold pnO pnC
          simp only
          rw [HMO.out, hnf]
          simp only
          rw [show (if isD = true then (128 : Int) else 0) = (qt : Int) from by rw [← HQT.out]; cases isD <;> rfl]
          rfl
        have hpath : nd.path = la := by rw [hnf]
        have hkids : nd.kids = [] := by rw [hnf]
        have hlo : ∀ m ∈ T.L, m.path ≤ T.last := fun m hm' => (HWF.out.lo m hm').2
        have hlpd : la ≠ d.path := by have := hlo d HDm.out; have := HLA.out; omega
        have hnone : look T.L la = none := by
          cases hx : look T.L la with
          | none => rfl
          | some m => obtain ⟨a, b⟩ := look_some hx; have := hlo m a; have := HLA.out; omega
        have mA0 : Mod (fun _ => False) W10 ((W10.alloc (.cells #[.int .u16 0, .int .u32 0, .int .u8 qt, .int .u32 0, .int .u64 la, .int .u32 mo, .int .u32 now, .int .u32 now, .int .u64 0, .string name, .string who, .string d.gid, .string who, .int .u64 d.path, .string { data := #[] }, .slice none 0 0] 78)).drew) := ((Mod.refl (fun _ => False) W10).alloc _).drew
        have hna : ((W10.alloc (.cells #[.int .u16 0, .int .u32 0, .int .u8 qt, .int .u32 0, .int .u64 la, .int .u32 mo, .int .u32 now, .int .u32 now, .int .u64 0, .string name, .string who, .string d.gid, .string who, .int .u64 d.path, .string { data := #[] }, .slice none 0 0] 78)).drew).heap[W10.heap.size]? = some (pnO nd (.slice none 0 0)) := by rw [← hpn]; exact new_at W10 _
        obtain ⟨an, han⟩ : ∃ an, W10.heap.size = an := ⟨_, rfl⟩
        obtain ⟨w3, hrun, HP, m3, hgr⟩ := H10.out.push hcnt hpath hla64 (by show look T.L la = none; exact hnone) hkids mA0 (Nat.le_refl _) hna
        rw [han] at hrun HP hgr
        simp only [han]
        generalize hwa : (W10.alloc (.cells #[.int .u16 0, .int .u32 0, .int .u8 qt, .int .u32 0, .int .u64 la, .int .u32 mo, .int .u32 now, .int .u32 now, .int .u64 0, .string name, .string who, .string d.gid, .string who, .int .u64 d.path, .string { data := #[] }, .slice none 0 0] 78)).drew = wa at *
        have HNF := Lib.hid hnf
        clear hnf hpn
        have mA : Mod (· = mb) W10 wa := mA0.mono fun _ _ x => x.elim
        refine hK.out _ _ (Lib.hid (mA)) ?_; clear hK K hHeld; intro hHeld
        try simp only [gA, gB, gC, Act.put, sA, sB, sC]
        refine hR1 12 rfl fun K hK => ?_
        go_simp
        have m13 : Mod (· = mb) W10 w3 := (mA0.mono fun _ _ x => x.elim).trans m3
        refine hK.out _ _ (Lib.hid (m13)) ?_; clear hK K hHeld; intro hHeld
        try simp only [gA, gB, gC, Act.put, sA, sB, sC]
        refine wpAnyH_done (by kernel_rfl) ?_ _
        have hmbF : ∀ k, k = mb → ρ k ≠ .none := fun k e => by rw [e, Hh.out.rm]; exact fun x => by cases x
        have hML : Mod (Foot ρ) w w3 := ((((MV0.out.mono fun _ _ x => x.elim).trans M1F.out).trans (HMc.out.mono fun _ _ x => x.elim)).trans (M10.out.mono fun _ _ x => x.elim)).trans (m13.mono fun k _ e => hmbF k e)
        have hsV : V.heap.size ≤ V1.heap.size := M1.out.size
        have hsc : V1.heap.size ≤ wc.heap.size := HMc.out.size
        have hs10 : wc.heap.size ≤ W10.heap.size := M10.out.size
        have hs13 : an < w3.heap.size := by rw [← han]; exact Nat.lt_of_lt_of_le (lt_of hna) m3.size
        have hVs := HVs.out
        have hbql : bq < an := by have := lt_of HQ.out; omega
        have hbqh : V1.heap.size = bq := HBq.out
        have hout : ∀ k, w.heap.size ≤ k → k ≠ an → setR ρ (some an) (.node la) k = .none := fun k hk1 hk2 => by
          unfold setR
          rw [if_neg (fun e => hk2 (by injection e))]
          cases hr : ρ k with
          | none => rfl
          | _ => exfalso; have := Hh.out.lt k (by rw [hr]; exact fun x => by cases x); omega
        have hgw : GrowsF w (Foot ρ) (Foot (setR ρ (some an) (.node la))) := fun k hk => by
          rcases hgr k hk with x | x
          · exact .inl x
          · exact .inr (by omega)
        have g0 := keepX m13 (by omega) k0
        have g6 := keepX m13 (by omega) k6
        have g4 := keepX m13 (by omega) k4
        have hQ3 : w3.heap[bq]? = some (qiO ⟨qt, 0, la⟩) := (m13.block _ (by omega) (by omega)).trans ((M10.out.block _ (lt_of HQ.out) (fun x => x)).trans HQ.out)
        have hZ3 : w3.heap[w.heap.size + 1 + 1 + 1 + 1 + 1]? = some (qiO Qi.zero) :=
          (m13.block _ (by omega) (by omega)).trans ((M10.out.block _ (by omega) (fun x => x)).trans ((HMc.out.block _ (by omega) (fun x => x)).trans ((M1.out.block _ (lt_of HZ5.out) (by omega)).trans HZ5.out)))
        have hbox0 : ∀ k, k = w.heap.size ∨ k = w.heap.size + 6 ∨ k = w.heap.size + 1 + 1 + 1 + 1 ∨ k = bq ∨ k = w.heap.size + 1 + 1 + 1 + 1 + 1 → w.heap.size ≤ k ∧ k ≠ an ∧ k < w3.heap.size := fun k hk => by
          rcases hk with e | e | e | e | e <;> omega
        have HBx := Lib.hid hbox0
        have HQ3 := Lib.hid hQ3
        have HZ3 := Lib.hid hZ3
        have HML := Lib.hid hML
        have HGW := Lib.hid hgw
        have HOUT := Lib.hid hout
        have HP := Lib.hid HP
        have HNP := Lib.hid hpath
        have HLPD := Lib.hid hlpd
        have HNONE := Lib.hid hnone
        clear hHeld mA mA0 hna hrun m3 hgr hwa m13 hmbF hML hQ3 hZ3 hgw hout hpath hkids hlo hlpd hnone k0 k6 k4 dm dl hrs HS10 hbox0 hVs hsV hsc hs10 hbqh hbql
        have hkl := (HWF.out.ok d HDm.out).kl
        have hd1 : d ∈ T.L ++ [nd] := List.mem_append_left _ HDm.out
        have hA1 : setA am la an d.path = am d.path := if_neg (fun e => HLPD.out e.symm)
        have hW1 : setW vk la (.slice none 0 0) d.path = vk d.path := if_neg (fun e => HLPD.out e.symm)
        have hNd := HP.out.node d hd1
        have hown := HP.out.kid d hd1
        rw [hA1, hW1] at hNd
        rw [hW1] at hown
        obtain ⟨ka, kc, hvk, hkc, _⟩ := kids_form hown.slAt
        have c15 : w3.cell? ⟨am d.path, 15, none⟩ = some (.slice ka d.kids.length kc) := by rw [← hvk]; exact (cell_of hNd 15).trans rfl
        have hI := index_any (P := fun _ => True) (vk d.path) d.kids 0 w3 (hown.slAt.imp fun _ _ => trivial) (by omega)
        have hpk := putKid_eq la d.kids
        have hrise1 : (T.L ++ [nd]).Pairwise fun a b => a.path < b.path := by
          refine List.pairwise_append.2 ⟨HWF.out.rise, List.pairwise_singleton _ _, fun a ha b hb => ?_⟩
          rw [List.mem_singleton.1 hb, HNP.out]
          have := (HWF.out.lo a ha).2
          have := HLA.out
          omega
        have hl1 : look (T.L ++ [nd]) d.path = some d := by rw [look_app, HL.out]
        have HRise := Lib.hid hrise1
        have HL1 := Lib.hid hl1
        have HVK := Lib.hid hvk
        have HOw := Lib.hid hown
        have HNd := Lib.hid hNd
        have HPK := Lib.hid hpk
        have HA1 := Lib.hid hA1
        have HW1 := Lib.hid hW1
        rw [hvk] at hI
        unfold idxI at hI
        obtain ⟨ix, hix⟩ : ∃ ix : Int, (if fiI d.kids 0 < d.kids.length then ((fiI d.kids 0 : Nat) : Int) else -1) = ix := ⟨_, rfl⟩
        rw [hix] at hI
        have HIX := Lib.hid hix
        clear hix
        obtain ⟨bt, hbt⟩ : ∃ bt, decide (ix < 0) = bt := ⟨_, rfl⟩
        have hfle : fiI d.kids 0 ≤ d.kids.length := List.findIdx_le_length
        clear hd1 hA1 hW1 hNd hown hvk hpk hrise1 hl1
        obtain ⟨ρ1, hρ1⟩ : ∃ ρ1, setR ρ (some an) (.node la) = ρ1 := ⟨_, rfl⟩
        obtain ⟨am1, ham1⟩ : ∃ am1, setA am la an = am1 := ⟨_, rfl⟩
        obtain ⟨vk1, hvk1⟩ : ∃ vk1, setW vk la (.slice none 0 0) = vk1 := ⟨_, rfl⟩
        rw [hρ1, ham1, hvk1] at HP
        rw [hρ1] at HGW HOUT
        rw [ham1] at HA1
        rw [hvk1] at HW1
        clear hρ1 ham1 hvk1
        go_upto_if 108 with (first | (refine hI.mono ?_; rintro e w4 ⟨rfl, rfl⟩))
        clear hI
        go_cut [22] from 107 to 122 (fun v wk => ∃ (K : List Nat) (fi : Nat) (ρ2 : Nat → Role) (vk2 : Nat → Value) (kg kc2 : Nat), v = .int .i64 fi ∧ fi < K.length ∧ K.length ≤ 113 ∧ Hid (K.set fi la = putKid d.kids la) ∧ Hid (PTreeP wk ρ2 b mb (cnt + 1) { L := updN (T.L ++ [nd]) d.path (fun n => { n with kids := K }), last := la } am1 vk2) ∧ Hid (vk2 d.path = .slice (some ⟨kg, 0, none⟩) K.length kc2) ∧ Hid (Mod (Foot ρ1) w3 wk) ∧ Hid (GrowsF w3 (Foot ρ1) (Foot ρ2)))
        case first =>
          by_cases hf : fiI d.kids 0 < d.kids.length
          · have hix := HIX.out
            rw [if_pos hf] at hix
            have hsame : updN (T.L ++ [nd]) d.path (fun n => { n with kids := d.kids }) = T.L ++ [nd] := upd_idn fun n hn hp => by
              rw [look_one HRise.out HL1.out hn hp]
            have HPK2 : Hid (d.kids.set (fiI d.kids 0) la = putKid d.kids la) := by
              show _ = _
              rw [HPK.out]
              exact (if_pos hf).symm
            obtain ⟨kg, hkg⟩ : ∃ kg, vk d.path = .slice (some ⟨kg, 0, none⟩) d.kids.length kc := by
              rcases HOw.out.2 with ⟨_, h0⟩ | ⟨kg, kc', hv, _⟩
              · omega
              · have hv2 := hv
                rw [HVK.out] at hv2
                injection hv2 with e1 e2 e3
                exact ⟨kg, by rw [HVK.out, e1]⟩
            have HKG := Lib.hid hkg
            have HSame := Lib.hid hsame
            clear hsame hkg
            generalize fiI d.kids 0 = fi at *
            have hb0 : bt = false := by rw [← hbt, ← hix]; simp
            subst hb0
            have HI2 := Lib.hid hix
            clear hix HIX
            go_wp2
            go_meet
            case rel => exact ⟨d.kids, fi, ρ1, vk1, kg, kc, by rw [HI2.out], hf, by omega, HPK2.out, by rw [HSame.out]; exact HP.out, by show vk1 d.path = _; rw [HW1.out]; exact HKG.out, Mod.refl _ _, GrowsF.refl _ _⟩
          · have hix := HIX.out
            rw [if_neg hf] at hix
            have hb0 : bt = true := by rw [← hbt, ← hix]; decide
            subst hb0
            clear hix
            have HPK2 : Hid ((d.kids ++ [0]).set d.kids.length la = putKid d.kids la) := by
              show _ = _
              rw [HPK.out, show (if frI d.kids < d.kids.length then d.kids.set (frI d.kids) la else d.kids ++ [la]) = d.kids ++ [la] from if_neg hf, List.set_append_right _ _ (Nat.le_refl _), Nat.sub_self]
              rfl
            clear hf hfle
            go_upto_region 17 with (fail)
            have hk0r : ∀ k, some k = (vk d.path).ownBlock → ρ1 k = .row d.path := fun k hk => HP.out.rk d (List.mem_append_left _ HDm.out) k (by rw [HW1.out]; exact hk)
            have hnr : ρ1 (am d.path) = .node d.path := by have := HP.out.rn d (List.mem_append_left _ HDm.out); rw [HA1.out] at this; exact this
            have hR6 : ρ1 (w.heap.size + 6) = .none := by obtain ⟨a, b, _⟩ := HBx.out (w.heap.size + 6) (.inr (.inl rfl)); exact HOUT.out _ a b
            have cB : ∀ U, Mod (fun k => some k = (vk d.path).ownBlock) w3 U → U.cell? ⟨w.heap.size + 6, 0, none⟩ = some (.pointer (some ⟨am d.path, 0, none⟩)) := fun U hU => (World.cell?_of_block (a := ⟨w.heap.size + 6, 0, none⟩) (hU.block _ (World.block_lt_of_cell? _ _ g6) (fun e => by have := hk0r _ e; rw [show ρ1 (Addr.block ⟨w.heap.size + 6, 0, none⟩) = .none from hR6] at this; cases this))).trans g6
            have cK : ∀ U, Mod (fun k => some k = (vk d.path).ownBlock) w3 U → U.cell? ⟨am d.path, 15, none⟩ = some (.slice ka d.kids.length kc) := fun U hU => (World.cell?_of_block (a := ⟨am d.path, 15, none⟩) (hU.block _ (World.block_lt_of_cell? _ _ c15) (fun e => by have := hk0r _ e; rw [show ρ1 (Addr.block ⟨am d.path, 15, none⟩) = .node d.path from hnr] at this; cases this))).trans c15
            refine wp_region_then3 (k := 9) (S := fun w' => Hid (Mod (fun k => some k = (vk d.path).ownBlock) w3 w')) _ _ rfl rfl rfl (by kernel_rfl) (by kernel_rfl) (Lib.hid (Mod.refl (fun k => some k = (vk d.path).ownBlock) w3).drew) (fun hHeld => ?_)
            simp only [List.take_succ_cons, List.take_zero]
            refine hT 0 rfl (fun wH hSw => by have cH := cB wH hSw.out; clear hSw; go_simp; all_goals with_reducible rfl) ?_
            try simp only [gA, gB, gC, Act.put, sA, sB, sC]
            refine hT 1 rfl (fun wH hSw => by have cH := cB wH hSw.out; clear hSw; go_simp; all_goals with_reducible rfl) ?_
            try simp only [gA, gB, gC, Act.put, sA, sB, sC]
            refine hT 2 rfl (fun _ _ => by go_simp; all_goals with_reducible rfl) ?_
            try simp only [gA, gB, gC, Act.put, sA, sB, sC]
            refine hT 3 rfl (fun _ _ => by go_simp; all_goals with_reducible rfl) ?_
            try simp only [gA, gB, gC, Act.put, sA, sB, sC]
            refine hT 4 rfl (fun wH hSw => by have cH := cK wH hSw.out; clear hSw; go_simp; all_goals with_reducible rfl) ?_
            try simp only [gA, gB, gC, Act.put, sA, sB, sC]
            refine hR1 5 rfl fun K hK => ?_
            go_simp
            have mC : Mod (fun k => some k = (vk d.path).ownBlock) w3 (w3.alloc (.cells #[.int .u64 0] 33)).drew := hHeld.out.alloc (.cells #[.int .u64 0] 33)
            have hPC : PTreeP (w3.alloc (.cells #[.int .u64 0] 33)).drew ρ1 b mb (cnt + 1) { L := T.L ++ [nd], last := la } am1 vk1 := HP.out.mod0 (((Mod.refl (fun _ => False) w3).alloc _).drew)
            have A2 : Hid (Src Tryz.prog 1 76 (.slice (some ⟨w3.heap.size, 0, none⟩) 1 1) 1 [.int .u64 0] (w3.alloc (.cells #[.int .u64 0] 33)).drew) := src_k1 w3.drew
            have A3 : Hid ((d.kids.length + 1) * 8 ≤ 140737488355328) := (show _ ≤ _ by omega)
            have A4 : Hid (d.kids.length + 1 ≤ 9223372036854775807) := (show _ ≤ _ by omega)
            have hwCs : w3.heap.size ≤ ((w3.alloc (.cells #[.int .u64 0] 33)).drew).heap.size := by show _ ≤ (w3.alloc _).heap.size; rw [World.size_alloc]; omega
            have mC0 : Mod (fun _ => False) w3 ((w3.alloc (.cells #[.int .u64 0] 33)).drew) := ((Mod.refl (fun _ => False) w3).alloc _).drew
            generalize hwC : (w3.alloc (.cells #[.int .u64 0] 33)).drew = wC at *
            have HPC := Lib.hid hPC
            have HO : Hid (OwnA wC 0 1 (.slice ka d.kids.length kc) d.kids.length (kidsV d.kids)) := by
              have h1 := hPC.kid d (List.mem_append_left _ HDm.out)
              rw [HW1.out, HVK.out] at h1
              exact h1
            clear hPC hwC
            refine hK.out _ _ (Lib.hid (mC)) ?_; clear hK K hHeld; intro hHeld
            try simp only [gA, gB, gC, Act.put, sA, sB, sC]
            refine hR1 6 rfl fun K hK => ?_
            refine Eq.mpr (if_pos ?hwant) ?_
            case hwant => rfl
            refine op_append (.tmp 118) (.tmp 119) _ _ rfl 0 33 (.int .u64 0) 1 8 Tryz.underlying76 info_u64 rfl (by decide) (.slice ka d.kids.length kc) _ _ rfl HO.out _ _ _ rfl A2.out A3.out A4.out (Nat.zero_le _) ?_
            intro v' w8 hown' hgrow hblk
            rw [← HVK.out] at hgrow hblk
            have hkk : kidsV d.kids ++ [.int .u64 0] = kidsV (d.kids ++ [0]) := by unfold kidsV; rw [List.map_append]; rfl
            have hll : (d.kids ++ [0]).length = d.kids.length + 1 := by rw [List.length_append, List.length_singleton]
            rw [hkk] at hown'
            obtain ⟨kg, kc', hv'⟩ := OwnA.succ hown'
            subst hv'
            obtain ⟨hP2, mP2, gP2⟩ := HPC.out.setKids HRise.out (p := d.path) HL1.out (v' := .slice (some ⟨kg, 0, none⟩) (d.kids.length + 1) kc') (ks := d.kids ++ [0]) (w2 := w8) (by rw [HW1.out]; exact hgrow) (by rw [hll]; exact hown') (by rw [HW1.out]; exact hblk.imp id (fun e => ⟨_, e, Nat.le_refl _⟩))
            rw [HA1.out] at hP2 mP2
            have m8 : Mod (fun k => some k = (vk d.path).ownBlock) w3 w8 := hHeld.out.trans hgrow
            have c15' : w8.cell? ⟨am d.path, 15, none⟩ = some (.slice ka d.kids.length kc) := cK _ m8
            have f15' : w8.frozen? ⟨am d.path, 15, none⟩ = false := by
              have h1 : w8.heap[am d.path]? = some (pnO d (vk d.path)) := (m8.block _ (lt_of HNd.out) (fun e => by have := hk0r _ e; rw [hnr] at this; cases this)).trans HNd.out
              exact free_of h1 15
            have HP2 := Lib.hid hP2
            have MP2 := Lib.hid (mC0.mono (T := Foot ρ1) (fun _ _ x => x.elim) |>.trans mP2)
            have GP2 : Hid (GrowsF w3 (Foot ρ1) (Foot (setR ρ1 (Value.slice (some ⟨kg, 0, none⟩) (d.kids.length + 1) kc').ownBlock (.row d.path)))) := fun k hk => by
              rcases gP2 k hk with x | x
              · exact .inl x
              · exact .inr (Nat.le_trans hwCs x)
            have HLL := Lib.hid hll
            clear hown' hgrow hblk hkk hll hP2 mP2 gP2 A2 A3 A4 HO
            refine hK.out _ _ (Lib.hid (m8)) ?_; clear hK K hHeld; intro hHeld
            try simp only [gA, gB, gC, Act.put, sA, sB, sC]
            refine hT 7 rfl (fun _ _ => by go_simp; all_goals with_reducible rfl) ?_
            try simp only [gA, gB, gC, Act.put, sA, sB, sC]
            refine hT 8 rfl (fun _ _ => by go_simp; all_goals with_reducible rfl) ?_
            try simp only [gA, gB, gC, Act.put, sA, sB, sC]
            refine wpAnyH_done (by kernel_rfl) ?_ _
            clear hHeld m8 mC mC0 hwCs cB cK
            intro K hK
            go_simp
            refine hK _ _ ?_
            go_wp2
            go_meet
            case rel => exact ⟨d.kids ++ [0], d.kids.length, _, _, kg, kc', rfl, by rw [HLL.out]; omega, by rw [HLL.out]; omega, HPK2.out, HP2.out, by show setW _ _ _ _ = _; rw [HLL.out]; exact if_pos rfl, MP2.out, GP2.out⟩
        case rest =>
          obtain ⟨wk, rfl⟩ : ∃ wk, wk = wc := ⟨_, rfl⟩
          obtain ⟨K, fi, ρ2, vk2, kg, kc2, rfl, hfiK, hK113, HKS, HP2, HV2, MW, GW⟩ := hcut
          clear c15 hbt
          have hkeep : ∀ k, (w.heap.size ≤ k ∧ k ≠ an ∧ k < w3.heap.size) → wk.heap[k]? = w3.heap[k]? := fun k hk => MW.out.block k hk.2.2 (fun x => x (HOUT.out k hk.1 hk.2.1))
          have hn2 : ∀ k, (w.heap.size ≤ k ∧ k ≠ an ∧ k < w3.heap.size) → ρ2 k = .none := fun k hk => by
            cases hr : ρ2 k with
            | none => rfl
            | _ =>
              exfalso
              rcases GW.out k (by show ρ2 k ≠ .none; rw [hr]; exact fun x => by cases x) with x | x
              · exact x (HOUT.out k hk.1 hk.2.1)
              · omega
          have x0 := HBx.out _ (.inl rfl)
          have x6 := HBx.out _ (.inr (.inl rfl))
          have x4 := HBx.out _ (.inr (.inr (.inl rfl)))
          have xq := HBx.out _ (.inr (.inr (.inr (.inl rfl))))
          have xr := HBx.out _ (.inr (.inr (.inr (.inr rfl))))
          have hl3 : look (updN (T.L ++ [nd]) d.path fun n => { n with kids := K }) d.path = some { d with kids := K } := by
            rw [upd_get (f := fun n : Nd => { n with kids := K }) (fun _ => rfl), HL1.out]
            exact congrArg some (if_pos rfl)
          have hup : ∀ {L : List Nd} {f : Nd → Nd}, (∀ n, (f n).path = n.path) → L.Pairwise (fun a b => a.path < b.path) → (updN L d.path f).Pairwise fun a b => a.path < b.path := fun {L f} hf hL => by
            unfold updN
            rw [List.pairwise_map]
            refine hL.imp fun hab => ?_
            have e1 : ∀ m : Nd, (if m.path = d.path then f m else m).path = m.path := fun m => by split; exact hf m; rfl
            rw [e1, e1]; exact hab
          have hr3 := hup (f := fun n : Nd => { n with kids := K }) (fun _ => rfl) HRise.out
          obtain ⟨hd3, _⟩ := look_some hl3
          have hN3 := HP2.out.node _ hd3
          have hown := HP2.out.kid _ hd3
          have hkr : ρ2 kg = .row d.path := HP2.out.rk _ hd3 kg (by show some kg = (vk2 d.path).ownBlock; rw [HV2.out]; rfl)
          have hnr := HP2.out.rn _ hd3
          have hN3 : wk.heap[am d.path]? = some (pnO { d with kids := K } (vk2 d.path)) := by rw [← HA1.out]; exact hN3
          have hnr : ρ2 (am d.path) = .node d.path := by rw [← HA1.out]; exact hnr
          have hown : OwnA wk 0 1 (vk2 d.path) K.length (kidsV K) := hown
          rw [HV2.out] at hown
          obtain ⟨hkc2, _, hcl, hfr⟩ := own_cap hown
          have c15 : wk.cell? ⟨am d.path, 15, none⟩ = some (.slice (some ⟨kg, 0, none⟩) K.length kc2) := by rw [← HV2.out]; exact (cell_of hN3 15).trans rfl
          have dl : wk.cell? ⟨b, 1, none⟩ = some (.int .u64 la) := HP2.out.c1
          have ck : wk.cell? ⟨kg, fi, none⟩ = some (.int .u64 K[fi]) := hcl fi _ (by unfold kidsV; rw [List.getElem?_map, List.getElem?_eq_getElem hfiK]; rfl)
          have fk : wk.frozen? ⟨kg, fi, none⟩ = false := hfr fi (by omega)
          have g0 : wk.cell? ⟨w.heap.size, 0, none⟩ = some (.pointer (some ⟨b, 0, none⟩)) := (World.cell?_of_block (a := ⟨w.heap.size, 0, none⟩) (hkeep _ x0)).trans g0
          have g6 : wk.cell? ⟨w.heap.size + 6, 0, none⟩ = some (.pointer (some ⟨am d.path, 0, none⟩)) := (World.cell?_of_block (a := ⟨w.heap.size + 6, 0, none⟩) (hkeep _ x6)).trans g6
          have g4 : wk.cell? ⟨w.heap.size + 1 + 1 + 1 + 1, 0, none⟩ = some (.string who) := (World.cell?_of_block (a := ⟨w.heap.size + 1 + 1 + 1 + 1, 0, none⟩) (hkeep _ x4)).trans g4
          have hQk : wk.heap[bq]? = some (qiO ⟨qt, 0, la⟩) := (hkeep _ xq).trans HQ3.out
          have hZk : wk.heap[w.heap.size + 1 + 1 + 1 + 1 + 1]? = some (qiO Qi.zero) := (hkeep _ xr).trans HZ3.out
          have hneK : ∀ k, (w.heap.size ≤ k ∧ k ≠ an ∧ k < w3.heap.size) → k ≠ kg := fun k hk e => by have := hn2 k hk; rw [e, hkr] at this; cases this
          have n0 := hneK _ x0
          have n6 := hneK _ x6
          have n4 := hneK _ x4
          have nq := hneK _ xq
          have nr := hneK _ xr
          have nb : b ≠ kg := fun e => by have := HP2.out.rb; rw [e, hkr] at this; cases this
          have na : am d.path ≠ kg := fun e => by rw [e, hkr] at hnr; cases hnr
          obtain ⟨HY, mY⟩ := (HP2.out.mod0 (Mod.refl (fun _ => False) wk).drew).setKid hr3 (p := d.path) (n := { d with kids := K }) hl3 (x := la) HV2.out (j := fi) hfiK
          obtain ⟨Y, hY⟩ : ∃ Y, wk.drew.setCell ⟨kg, fi, none⟩ (.int .u64 la) = Y := ⟨_, rfl⟩
          rw [hY] at HY mY
          have mYk : Mod (· = kg) wk Y := by rw [← hY]; exact ((Mod.refl _ wk).drew).trans (Mod.set1 _ _ _ _)
          have hNY : Y.heap[am d.path]? = some (pnO { d with kids := K } (vk2 d.path)) := (mYk.block _ (lt_of hN3) na).trans hN3
          have hTo := ptouch_any (am d.path) { d with kids := K } (vk2 d.path) who now Y hNY (HWF.out.ok d HDm.out).ver
          have y6 := keepX mYk n6 g6
          have y4 := keepX mYk n4 g4
          have hQY := (mYk.block _ (lt_of hQk) nq).trans hQk
          have hZY := (mYk.block _ (lt_of hZk) nr).trans hZk
          have HY := Lib.hid HY
          have MYK := Lib.hid mYk
          have HQY := Lib.hid hQY
          have HZY := Lib.hid hZY
          have HL3 := Lib.hid hl3
          have HR3 := Lib.hid (hup (f := fun n : Nd => { n with kids := n.kids.set fi la }) (fun _ => rfl) hr3)
          have HKR := Lib.hid hkr
          have HXq := Lib.hid xq
          have HXr := Lib.hid xr
          have i1 : (0 : Int) ≤ (fi : Int) := by omega
          have i2 : (fi : Int) < (K.length : Int) := by omega
          have i3 : (K.length : Int) ≤ (kc2 : Int) := by omega
          clear hkeep hn2 hup hr3 hd3 hN3 hown hnr hcl hfr hQk hZk hneK mY mYk hNY hQY hZY hkr hl3 xq xr x0 x6 x4
          generalize K[fi] = kv at *
          go_upto_region 18 with (fail)
          refine wp_region_held_drew (S := fun w' => Hid (Mod (· = kg) wk w')) (by kernel_rfl) (Lib.hid (Mod.refl (· = kg) wk).drew) (fun hHeld => ?_)
          refine hT 0 rfl (fun wH hSw => by have cH := keepX hSw.out n6 g6; clear hSw; go_simp; all_goals with_reducible rfl) ?_
          try simp only [gA, gB, gC, Act.put, sA, sB, sC]
          refine hT 1 rfl (fun _ _ => by go_simp; all_goals with_reducible rfl) ?_
          try simp only [gA, gB, gC, Act.put, sA, sB, sC]
          refine hT 2 rfl (fun _ _ => by go_simp; all_goals with_reducible rfl) ?_
          try simp only [gA, gB, gC, Act.put, sA, sB, sC]
          refine hT 3 rfl (fun wH hSw => by have cH := keepX hSw.out na c15; clear hSw; go_simp; all_goals with_reducible rfl) ?_
          try simp only [gA, gB, gC, Act.put, sA, sB, sC]
          refine hT 4 rfl (fun _ _ => by go_simp; all_goals with_reducible rfl) ?_
          try simp only [gA, gB, gC, Act.put, sA, sB, sC]
          refine hT 5 rfl (fun wH hSw => by have cH := keepX hSw.out n0 g0; clear hSw; go_simp; all_goals with_reducible rfl) ?_
          try simp only [gA, gB, gC, Act.put, sA, sB, sC]
          refine hT 6 rfl (fun _ _ => by go_simp; all_goals with_reducible rfl) ?_
          try simp only [gA, gB, gC, Act.put, sA, sB, sC]
          refine hT 7 rfl (fun _ _ => by go_simp; all_goals with_reducible rfl) ?_
          try simp only [gA, gB, gC, Act.put, sA, sB, sC]
          refine hT 8 rfl (fun wH hSw => by have cH := keepX hSw.out nb dl; clear hSw; go_simp; all_goals with_reducible rfl) ?_
          try simp only [gA, gB, gC, Act.put, sA, sB, sC]
          refine hT 9 rfl (fun _ _ => by go_simp; all_goals with_reducible rfl) ?_
          try simp only [gA, gB, gC, Act.put, sA, sB, sC]
          refine hR1 10 rfl fun K hK => ?_
          go_simp
          refine hK.out _ _ (Lib.hid (MYK.out)) ?_; clear hK K hHeld; intro hHeld
          try simp only [gA, gB, gC, Act.put, sA, sB, sC]
          refine wpAnyH_done (by kernel_rfl) ?_ _
          clear hHeld hY g0 g6 g4 c15 dl ck fk
          go_wp2_with fail
          refine hTo.mono ?_
          rintro e Z ⟨rfl, hNZ, mZ⟩
          have hl4 : look (updN (updN (T.L ++ [nd]) d.path fun n => { n with kids := K }) d.path fun n => { n with kids := n.kids.set fi la }) d.path = some { d with kids := K.set fi la } := by
            rw [upd_get (f := fun n : Nd => { n with kids := n.kids.set fi la }) (fun _ => rfl), HL3.out]
            exact congrArg some (if_pos rfl)
          obtain ⟨HPZ, HMZ⟩ := HY.out.setN HR3.out (p := d.path) (f := fun m => m.touch who now) (fun _ => rfl) (fun _ => rfl) hl4 (by rw [HA1.out]; exact mZ) (by rw [HA1.out]; exact hNZ)
          have hTT : updN (updN (updN (T.L ++ [nd]) d.path fun n => { n with kids := K }) d.path fun n => { n with kids := n.kids.set fi la }) d.path (fun m => m.touch who now) = updN T.L d.path (fun d => Nd.touch { d with kids := putKid d.kids la } who now) ++ [nd] := by
            rw [upd_upd (f := fun n : Nd => { n with kids := K }) (fun _ => rfl), upd_upd (f := fun n : Nd => { n with kids := K.set fi la }) (fun _ => rfl), upd_app]
            congr 1
            · refine upd_congr fun m hm hmp => ?_
              have e1 : m = d := look_one HWF.out.rise HL.out hm hmp
              subst e1
              show Nd.touch { m with kids := K.set fi la } who now = _
              rw [HKS.out]
            · unfold updN
              rw [List.map_singleton, if_neg (by rw [HNP.out]; exact HLPD.out)]
          have HPZ : PTreeP Z ρ2 b mb (cnt + 1) ⟨updN T.L d.path (fun d => Nd.touch { d with kids := putKid d.kids la } who now) ++ [nd], la⟩ am1 vk2 := by rw [← hTT]; exact HPZ
          have HPZ := Lib.hid HPZ
          have hgrow : GrowsF w (Foot ρ) (Foot ρ2) := HGW.out.trans GW.out HML.out.size
          have hMf : Mod (Foot ρ) w Z := by
            have m1 : Mod (Foot ρ) w wk := HML.out.growsF HGW.out MW.out
            have m2 : Mod (Foot ρ) w Y := m1.growsF hgrow (MYK.out.mono fun k _ e => by show ρ2 k ≠ .none; rw [e, HKR.out]; exact fun x => by cases x)
            exact m2.growsF hgrow HMZ
          have HGr := Lib.hid hgrow
          have HMf := Lib.hid hMf
          have hQZ : Z.heap[bq]? = some (qiO ⟨qt, 0, la⟩) := (mZ.block _ (lt_of HQY.out) (by have := HXq.out; omega)).trans HQY.out
          have hZZ : Z.heap[w.heap.size + 1 + 1 + 1 + 1 + 1]? = some (qiO Qi.zero) := (mZ.block _ (lt_of HZY.out) (by omega)).trans HZY.out
          have hrow := qi_rng (q := ⟨qt, 0, la⟩) hQZ
          have hql := qi_len ⟨qt, 0, la⟩
          have HZZ := Lib.hid hZZ
          clear hTo hNZ mZ hl4 hTT hgrow hMf hQZ hZZ y6 y4
          go_wp2_with (first | refine wpList_load_mid rfl 35 (.tmp 20) rfl bq 0 rfl (qiC ⟨qt, 0, la⟩) _ hrow Tryz.underlying35 rfl (by kernel_rfl) ?_ | (refine wpl_store_row rfl 35 (.tmp 14) (.tmp 137) rfl rfl (w.heap.size + 1 + 1 + 1 + 1 + 1) (qiC ⟨qt, 0, la⟩) rfl rfl 35 _ HZZ.out rfl (qi_one _) (by kernel_rfl) ?_; intro V9 hv9 mv9))
          have HP9 : Hid (PTreeP V9 ρ2 b mb (cnt + 1) ⟨updN T.L d.path (fun d => Nd.touch { d with kids := putKid d.kids la } who now) ++ [nd], la⟩ am1 vk2) := HPZ.out.mod mv9 fun k e => by
            have xr := HXr.out
            cases hr : ρ2 k with
            | none => rfl
            | _ =>
              exfalso
              rcases GW.out k (by show ρ2 k ≠ .none; rw [hr]; exact fun x => by cases x) with x | x
              · exact x (by rw [e]; exact HOUT.out _ xr.1 xr.2.1)
              · omega
          have HM9 : Hid (Mod (Foot ρ) w V9) := HMf.out.trans' mv9 fun k hk e => by omega
          refine bodyPost_ret (results_cell2 rfl _ _ V9 (w.heap.size + 1 + 1 + 1 + 1 + 1) (qiC ⟨qt, 0, la⟩) _ rfl (qi_rng (q := ⟨qt, 0, la⟩) hv9) Tryz.underlying35 rfl (by kernel_rfl)) rfl ⟨by rw [HV.out, HQN.out]; rfl, ρ2, am1, vk2, by rw [HV.out]; exact HP9.out, HM9.out, HGr.out⟩
    · have t3 : (createE T d name perm m who != 0) = true := by simp [he]
      have HV := Lib.hid (createE_err (now := now) HL.out he)
      clear he
      go_upto_region 7 with (fail)
      refine wp_region_lit ?_
      iterate 2
        refine wpList_plain rfl fun K hK => ?_
        go_simp
        refine hK _ _ ?_
        clear hK K
      refine wpl_store_row rfl 35 (.tmp 14) (.tmp 52) rfl rfl (w.heap.size + 1 + 1 + 1 + 1 + 1) (qiC Qi.zero) rfl rfl 35 _ HZ5.out rfl (qi_one _) (by kernel_rfl) ?_
      intro V9 hv9 mv9
      refine wpList_plain rfl fun K hK => ?_
      go_simp
      refine hK _ _ ?_
      clear hK K
      refine wpList_nil ?_
      have MV : Hid (Mod (fun _ => False) w V9) := (MV0.out).trans' mv9 fun k hk e => by omega
      go_wp2
      refine bodyPost_ret (results_cell2 rfl _ _ V9 (w.heap.size + 1 + 1 + 1 + 1 + 1) (qiC Qi.zero) _ rfl (qi_rng hv9) Tryz.underlying35 rfl (by kernel_rfl)) rfl ?_
      exact PCst.err HV.out Hh.out MV.out
end Go.Proofs.YtkcnbbjmkkaolaaGreatDoor
namespace Go.Proofs.YtkcnbbjmkkaolaaGreatDoor
open Go.RowKit

section
variable {w : World} {ρ : Nat → Role} {b mb cnt : Nat} {T : Tr} {am : Nat → Nat} {vk : Nat → Value}
set_option maxHeartbeats 1000000 in
set_option maxRecDepth 100000 in
theorem pstat_any (h : PTreeP w ρ b mb cnt T am vk) (hwf : WF T) (p : Nat) (hp : p < 18446744073709551616) :
    Calls Tryz.prog 26 #[.pointer (some ⟨b, 0, none⟩), .int .u64 p] w fun e w' => e = .returned (.tuple #[.agg (statT T p).1.cells.toArray, .int .i64 (statT T p).2]) ∧ Mod (fun _ => False) w w' := by
  obtain ⟨V, hV⟩ : ∃ V, w.alloc (.cells #[.int .u16 0, .int .u32 0, .int .u8 0, .int .u32 0, .int .u64 0, .int .u32 0, .int .u32 0, .int .u32 0, .int .u64 0, .string { data := #[] }, .string { data := #[] }, .string { data := #[] }, .string { data := #[] }] 37) = V := ⟨_, rfl⟩
  have hv : V.heap[w.heap.size]? = some (stO St.none) := by subst hV; exact new_at _ _
  have m0 : Mod (fun _ => False) w V := by subst hV; exact (Mod.refl _ w).alloc _
  have H0 := h.mod0 m0
  have hG := pget_any H0 p hp
  have HV := Lib.hid hv
  have M0 := Lib.hid m0
  have HS : Hid (statT T p = match look T.L p with | none => (St.none, 180) | some n => (statOf n, 0)) := rfl
  have H0 := Lib.hid H0
  clear h hv m0
  cases hl : look T.L p with
  | none =>
    have e1 : ptrV T.L am p = .pointer none := by unfold ptrV; rw [hl]
    have HS2 : Hid (statT T p = (St.none, 180)) := by show _ = _; rw [HS.out, hl]
    rw [e1, hl] at hG
    simp only [Option.isSome_none, Bool.false_eq_true, if_false] at hG
    clear HS hl e1
    go_enter Tryz.func26, Tryz.ntmps26
    go_wp2_with fail
    refine hG.mono ?_
    rintro e w1 ⟨rfl, rfl⟩
    clear hG hV
    go_upto_region 3 with (fail)
    refine wp_region_lit ?_
    iterate 2
      refine wpList_plain rfl fun K hK => ?_
      go_simp
      refine hK _ _ ?_
      clear hK K
    refine wpl_store_row rfl 37 (.tmp 4) (.tmp 16) rfl rfl w.heap.size St.none.cells rfl rfl 37 _ HV.out rfl (st_one _) (by kernel_rfl) ?_
    intro V9 hv9 mv9
    refine wpList_plain rfl fun K hK => ?_
    go_simp
    refine hK _ _ ?_
    clear hK K
    refine wpList_nil ?_
    have MV : Hid (Mod (fun _ => False) w V9) := M0.out.trans' mv9 fun k hk e => by omega
    go_wp2
    refine bodyPost_ret (results_cell2 rfl _ _ V9 w.heap.size St.none.cells _ rfl (st_rng (s := St.none) hv9) Tryz.underlying37 rfl (by kernel_rfl)) rfl ⟨by rw [HS2.out]; rfl, MV.out⟩
  | some n =>
    obtain ⟨hnm, hnp⟩ := look_some hl
    have e1 : ptrV T.L am p = .pointer (some ⟨am p, 0, none⟩) := by unfold ptrV; rw [hl]
    have HS2 : Hid (statT T p = (statOf n, 0)) := by show _ = _; rw [HS.out, hl]
    rw [e1, hl] at hG
    simp only [Option.isSome_some, if_true] at hG
    have hst := ptold_any (am n.path) n (vk n.path) V (H0.out.node n hnm) (hwf.ok n hnm).data
    rw [hnp] at hst
    have hsl := st_len (statOf n)
    clear HS hl e1 hnp hnm
    go_enter Tryz.func26, Tryz.ntmps26
    go_wp2_with fail
    refine hG.mono ?_
    rintro e w1 ⟨rfl, rfl⟩
    clear hG hV
    go_wp2_with fail
    refine hst.mono ?_
    rintro e w2 ⟨rfl, m2⟩
    have HV2 := Lib.hid ((m2.block _ (lt_of HV.out) (fun x => x)).trans HV.out)
    clear hst
    go_wp2_with (refine wpl_store_row rfl 37 (.tmp 4) (.tmp 19) rfl rfl w.heap.size (statOf n).cells rfl rfl 37 _ HV2.out rfl (st_one _) (by kernel_rfl) ?_; intro V9 hv9 mv9)
    have MV : Hid (Mod (fun _ => False) w V9) := (M0.out.trans m2).trans' mv9 fun k hk e => by omega
    refine bodyPost_ret (results_cell2 rfl _ _ V9 w.heap.size (statOf n).cells _ rfl (st_rng hv9) Tryz.underlying37 rfl (by kernel_rfl)) rfl ⟨by rw [HS2.out]; rfl, MV.out⟩
set_option maxRecDepth 100000 in
theorem pparent_any (h : PTreeP w ρ b mb cnt T am vk) (p : Nat) (hp : p < 18446744073709551616) :
    Calls Tryz.prog 27 #[.pointer (some ⟨b, 0, none⟩), .int .u64 p] w fun e w' => e = .returned (.tuple #[.int .u64 (parentT T p).1, .int .i64 (parentT T p).2]) ∧ w = w' := by
  have hG := pget_any h p hp
  have HS : Hid (parentT T p = match look T.L p with | none => (0, 180) | some n => (n.parent, 0)) := rfl
  cases hl : look T.L p with
  | none =>
    have e1 : ptrV T.L am p = .pointer none := by unfold ptrV; rw [hl]
    have HS2 : Hid (parentT T p = (0, 180)) := by show _ = _; rw [HS.out, hl]
    rw [e1, hl] at hG
    simp only [Option.isSome_none, Bool.false_eq_true, if_false] at hG
    clear HS hl e1 h
    go_enter Tryz.func27, Tryz.ntmps27
    go_wp2_with fail
    refine hG.mono ?_
    rintro e w1 ⟨rfl, rfl⟩
    go_wp2
    go_ret2
    exact ⟨by rw [HS2.out]; rfl, rfl⟩
  | some n =>
    obtain ⟨hnm, hnp⟩ := look_some hl
    have e1 : ptrV T.L am p = .pointer (some ⟨am p, 0, none⟩) := by unfold ptrV; rw [hl]
    have HS2 : Hid (parentT T p = (n.parent, 0)) := by show _ = _; rw [HS.out, hl]
    rw [e1, hl] at hG
    simp only [Option.isSome_some, if_true] at hG
    have c13 : w.cell? ⟨am p, 13, none⟩ = some (.int .u64 n.parent) := by rw [← hnp]; exact (cell_of (h.node n hnm) 13).trans rfl
    clear HS hl e1 hnp hnm h
    go_enter Tryz.func27, Tryz.ntmps27
    go_wp2_with fail
    refine hG.mono ?_
    rintro e w1 ⟨rfl, rfl⟩
    go_wp2
    go_ret2
    exact ⟨by rw [HS2.out]; rfl, rfl⟩
set_option maxHeartbeats 2000000 in
set_option maxRecDepth 100000 in
theorem pread_any (h : PTreeP w ρ b mb cnt T am vk) (hwf : WF T) (p off count : Nat) (hp : p < 18446744073709551616) (ho : off < 18446744073709551616) (hc : count < 4294967296) :
    Calls Tryz.prog 30 #[.pointer (some ⟨b, 0, none⟩), .int .u64 p, .int .u64 off, .int .u32 count] w fun e w' => e = .returned (.tuple #[.string (readT T p off count).1, .int .i64 (readT T p off count).2]) ∧ Mod (fun _ => False) w w' := by
  have hG := pget_any h p hp
  have HS : Hid (readT T p off count = match look T.L p with | none => (ByteArray.empty, 180) | some n => if n.dir = true then (ByteArray.empty, 181) else (readB n.data off count, 0)) := rfl
  have hw1 : IntKind.u64.wrap (count : Int) = count := by rw [IntKind.wrap_u64]; omega
  cases hl : look T.L p with
  | none =>
    have e1 : ptrV T.L am p = .pointer none := by unfold ptrV; rw [hl]
    have HS2 : Hid (readT T p off count = (ByteArray.empty, 180)) := by show _ = _; rw [HS.out, hl]
    rw [e1, hl] at hG
    simp only [Option.isSome_none, Bool.false_eq_true, if_false] at hG
    clear HS hl e1 h
    go_enter Tryz.func30, Tryz.ntmps30
    go_wp2_with fail
    refine hG.mono ?_
    rintro e w1 ⟨rfl, rfl⟩
    go_wp2
    go_ret2
    exact ⟨by rw [HS2.out]; rfl, Mod.refl _ _⟩
  | some n =>
    obtain ⟨hnm, hnp⟩ := look_some hl
    have e1 : ptrV T.L am p = .pointer (some ⟨am p, 0, none⟩) := by unfold ptrV; rw [hl]
    have HS2 : Hid (readT T p off count = if n.dir = true then (ByteArray.empty, 181) else (readB n.data off count, 0)) := by show _ = _; rw [HS.out, hl]
    rw [e1, hl] at hG
    simp only [Option.isSome_some, if_true] at hG
    have hD := pdir_any (am n.path) n (vk n.path) w (h.node n hnm)
    have c14 : w.cell? ⟨am p, 14, none⟩ = some (.string n.data) := by rw [← hnp]; exact (cell_of (h.node n hnm) 14).trans rfl
    rw [hnp] at hD
    have hdl := (hwf.ok n hnm).data
    clear HS hl e1 hnp hnm h hwf
    cases hd : n.dir with
    | true =>
      rw [hd] at hD
      have HS3 : Hid (readT T p off count = (ByteArray.empty, 181)) := HS2.out.trans (if_pos hd)
      clear HS2 hd
      go_enter Tryz.func30, Tryz.ntmps30
      go_wp2_with fail
      refine hG.mono ?_
      rintro e w1 ⟨rfl, rfl⟩
      clear hG
      go_wp2_with fail
      refine hD.mono ?_
      rintro e w1 ⟨rfl, rfl⟩
      clear hD
      go_wp2
      go_ret2
      exact ⟨by rw [HS3.out]; rfl, Mod.refl _ _⟩
    | false =>
      rw [hd] at hD
      have HS3 : Hid (readT T p off count = (readB n.data off count, 0)) := HS2.out.trans (if_neg (by rw [hd]; simp))
      clear HS2 hd
      generalize n.data = s at *
      have hw2 : IntKind.u64.wrap (s.size : Int) = s.size := by rw [IntKind.wrap_u64]; omega
      go_enter Tryz.func30, Tryz.ntmps30
      go_wp2_with fail
      refine hG.mono ?_
      rintro e w1 ⟨rfl, rfl⟩
      clear hG
      go_wp2_with fail
      refine hD.mono ?_
      rintro e w1 ⟨rfl, rfl⟩
      clear hD
      go_wp2
      go_quiet (fail)
      obtain ⟨t, ht⟩ : ∃ t, s.extract (min (off : Int) (s.size : Int)).toNat s.size = t := ⟨_, rfl⟩
      have hm : (min (off : Int) (s.size : Int)).toNat = min off s.size := by omega
      have hts : t.size = s.size - min off s.size := by rw [← ht, hm, ByteArray.size_extract]; omega
      have hw3 : IntKind.u64.wrap (t.size : Int) = t.size := by rw [IntKind.wrap_u64]; omega
      have HF : Hid (readB s off count = t.extract 0 (min (count : Int) (t.size : Int)).toNat) := by
        show _ = _
        unfold readB
        rw [show (min (count : Int) (t.size : Int)).toNat = min count t.size by omega, ← ht, hm, ByteArray.extract_extract]
        have h1 : (s.extract (min off s.size) s.size).size = s.size - min off s.size := by rw [ByteArray.size_extract]; omega
        rw [h1]
        congr 1 <;> omega
      rw [ht]
      have HTS := Lib.hid hts
      clear ht hm hts hdl
      go_wp2
      go_ret2
      exact ⟨by rw [HS3.out, HF.out]; rfl, (Mod.refl _ w).drewN nq⟩
end
end Go.Proofs.YtkcnbbjmkkaolaaGreatDoor
namespace Go.Proofs.YtkcnbbjmkkaolaaGreatDoor
open Go.RowKit

theorem wpIn_region_then3_round {n l0 : Nat} {P : Program} {Q : Exit → Act → World → Prop} {id k : Nat} {a : Act} {w : World} {ops : List Oper} {S : World → Prop} (l : List Oper) (o : Oper) (hl : ops.take k = l) (ho : ops[k]? = some o) (hk : ops.length = k + 1) (hm : P.follows .mixedOrders = true) (hL : lastB2 .any l.toArray o = true) (hd : noDefer ops.toArray.toList = true) (hS : S w.drew)
    (h : S w.drew → wpAnyH P .any l.toArray (thenQ P o (onlyN Q)) S l.toArray.size (Array.replicate l.toArray.size false) a w.drew) : (Code.region id ops.toArray true).wpIn (Fence.wide.inRound l0) n P Q a w := by
  have he : ops.toArray = l.toArray.push o := by
    rw [List.push_toArray, ← hl]
    congr 1
    apply List.ext_getElem?
    intro i
    rw [List.getElem?_append, List.length_take, List.getElem?_take]
    by_cases h1 : i < k
    · rw [if_pos (by omega), if_pos h1]
    · rw [if_neg (by omega)]
      by_cases h2 : i = k
      · subst h2
        rw [ho, show i - min i ops.length = 0 from by omega]; rfl
      · rw [List.getElem?_eq_none (by omega), List.getElem?_eq_none (by simp; omega)]
  rw [he] at hd ⊢
  have hI0 : Inv2 .any l.toArray (Array.replicate l.toArray.size false) := by
    intro j oj hj hlj
    have hjl : j < l.toArray.size := (Array.getElem?_eq_some_iff.1 hj).1
    simp only [Array.getD_eq_getD_getElem?] at hlj
    rw [Array.getElem?_eq_getElem (by simpa using hjl)] at hlj
    simp at hlj
  have h3 := wpAny_then3 (Q' := onlyN Q) hL l.toArray.size (Array.replicate l.toArray.size false) a w.drew (by simp) hI0 (wpAny_of_held _ _ _ _ (h hS))
  refine wpIn_region_any hm (wpAny_round hd _ _ _ _ ?_)
  rw [Array.size_push, List.size_toArray]
  rw [show Array.replicate (l.length + 1) false = (Array.replicate l.toArray.size false).push false from by simp [Array.replicate_succ]]
  exact h3
end Go.Proofs.YtkcnbbjmkkaolaaGreatDoor
namespace Go.Proofs.YtkcnbbjmkkaolaaGreatDoor
open Go.RowKit Go.Shelf
attribute [local go_sem] Oper.semAt_some

theorem holdsM_own {β : Type} {B Bc : Nat} (hB : Bc < B) (t : TypeId) (sz : Nat) (n : β → Nat) (xs : β → List Value) : HoldsM B (fun s W => ∃ v, W.heap[Bc]? = some (boxO v t) ∧ OwnA W (B + 2) sz v (n s) (xs s)) :=
  ⟨fun _ A C ⟨v, h1, h2⟩ hm => ⟨v, (hm.block _ (lt_of h1) (fun x => x)).trans h1, h2.mod hm fun _ _ x => x⟩,
   fun _ A R R' ⟨v, h1, h2⟩ _ => ⟨v, (World.putObj_heap_other (by omega)).trans h1, h2.mod (mod_putR (k := B + 1) _) fun k hk e => by omega⟩⟩
set_option maxHeartbeats 2000000 in
set_option maxRecDepth 100000 in
theorem plist_any {w : World} {ρ : Nat → Role} {b mb cnt : Nat} {T : Tr} {am : Nat → Nat} {vk : Nat → Value} (h : PTreeP w ρ b mb cnt T am vk) (hwf : WF T) (p : Nat) (hp : p < 18446744073709551616) :
    Calls Tryz.prog 31 #[.pointer (some ⟨b, 0, none⟩), .int .u64 p] w fun e w' => ∃ v, e = .returned (.tuple #[v, .int .i64 (listT T p).2]) ∧ RecsAt St.cells 13 w' (w.heap.size ≤ ·) v (listT T p).1 ∧ Mod (fun _ => False) w w' := by
  have hG := pget_any h p hp
  have HS : Hid (listT T p = match look T.L p with | none => ([], 180) | some n => if n.dir = false then ([], 181) else (kidSts T.L n, 0)) := rfl
  cases hl : look T.L p with
  | none =>
    have e1 : ptrV T.L am p = .pointer none := by unfold ptrV; rw [hl]
    have HS2 : Hid (listT T p = ([], 180)) := by show _ = _; rw [HS.out, hl]
    rw [e1, hl] at hG
    simp only [Option.isSome_none, Bool.false_eq_true, if_false] at hG
    clear HS hl e1 h
    go_enter Tryz.func31, Tryz.ntmps31
    go_wp2_with fail
    refine hG.mono ?_
    rintro e w1 ⟨rfl, rfl⟩
    go_wp2
    go_ret2
    exact ⟨_, by rw [HS2.out]; rfl, by rw [HS2.out]; exact .inl ⟨rfl, none, 0, rfl⟩, Mod.refl _ _⟩
  | some n =>
    obtain ⟨hnm, hnp⟩ := look_some hl
    have e1 : ptrV T.L am p = .pointer (some ⟨am p, 0, none⟩) := by unfold ptrV; rw [hl]
    have HS2 : Hid (listT T p = if n.dir = false then ([], 181) else (kidSts T.L n, 0)) := by show _ = _; rw [HS.out, hl]
    rw [e1, hl] at hG
    simp only [Option.isSome_some, if_true] at hG
    have hD := pdir_any (am n.path) n (vk n.path) w (h.node n hnm)
    rw [hnp] at hD
    clear HS e1
    cases hd : n.dir with
    | false =>
      rw [hd] at hD
      have HS3 : Hid (listT T p = ([], 181)) := HS2.out.trans (if_pos hd)
      clear HS2 hd hl hnm hnp h hwf
      go_enter Tryz.func31, Tryz.ntmps31
      go_wp2_with fail
      refine hG.mono ?_
      rintro e w1 ⟨rfl, rfl⟩
      clear hG
      go_wp2_with fail
      refine hD.mono ?_
      rintro e w1 ⟨rfl, rfl⟩
      clear hD
      go_wp2
      go_ret2
      exact ⟨_, by rw [HS3.out]; rfl, by rw [HS3.out]; exact .inl ⟨rfl, none, 0, rfl⟩, Mod.refl _ _⟩
    | true =>
      rw [hd] at hD
      have HS3 : Hid (listT T p = (kidSts T.L n, 0)) := HS2.out.trans (if_neg (by rw [hd]; simp))
      clear HS2 hd hl
      refine (callsIn_wide (n := 6)).1 ?_
      refine callsIn_of_wp_marks Tryz.func31 rfl trivial ?_ rfl
      simp only [Tryz.ntmps31, List.size_toArray, List.length_cons, List.length_nil, Nat.reduceAdd, Nat.reduceSub, Array.replicate_succ, Array.replicate_zero, List.push_toArray, List.append_toArray, List.nil_append, List.cons_append]
      gi_wp2_with (first
        | (refine ⟨trivial, ?_⟩; gi_at_call 51; refine (callsIn_wide.2 hG).mono ?_; rintro e w' ⟨rfl, rfl⟩)
        | (refine ⟨trivial, ?_⟩; gi_at_call 54; refine (callsIn_wide.2 hD).mono ?_; rintro e w' ⟨rfl, rfl⟩)
        | (refine ⟨trivial, ?_⟩; gi_at_call 76; refine (callsIn_wide.2 (pkids_any _ _ _)).mono ?_; rintro e w' ⟨rfl, rfl⟩))
      obtain ⟨W0, hW0⟩ : ∃ W0, ((w.alloc (.cells #[.slice none 0 0] 69)).alloc (.cells #[.pointer (some ⟨b, 0, none⟩)] 26)).alloc (.cells #[.pointer (some ⟨am p, 0, none⟩)] 75) = W0 := ⟨_, rfl⟩
      have hsz : W0.heap.size = w.heap.size + 3 := by subst hW0; simp
      have hb1 : W0.heap[w.heap.size]? = some (boxO (.slice none 0 0) 69) := by subst hW0; exact alloc_keep (alloc_keep (new_at _ _))
      have hb2 : W0.heap[w.heap.size + 1]? = some (boxO (.pointer (some ⟨b, 0, none⟩)) 26) := by subst hW0; exact alloc_keep (new_at' _ _ _ (by simp))
      have hb3 : W0.heap[w.heap.size + 2]? = some (boxO (.pointer (some ⟨am n.path, 0, none⟩)) 75) := by subst hW0; rw [hnp]; exact new_at' _ _ _ (by simp)
      have hm0 : Mod (fun _ => False) w W0 := by subst hW0; exact ((((Mod.refl _ w).alloc _).alloc _).alloc _)
      rw [hW0]
      clear hW0
      have hsn : ∀ k, (∃ r, ρ k = r ∧ r ≠ .none) → k < w.heap.size := fun k ⟨r, e, hr⟩ => h.lt k (by rw [e]; exact hr)
      have hoT : ∀ W, Mod (· = w.heap.size) W0 W → PTreeP W ρ b mb cnt T am vk := fun W hm => (h.mod0 hm0).mod hm fun k e => by
          cases hr : ρ k with
          | none => rfl
          | _ => exfalso; have := hsn k ⟨_, hr, fun x => by cases x⟩; omega
      have hoK : ∀ W, Mod (· = w.heap.size) W0 W → KidsO ρ b mb cnt T am vk (w.heap.size + 2) (w.heap.size + 1) n.path W := fun W hm =>
        ⟨hoT W hm, (hm.block _ (lt_of hb3) (by omega)).trans hb3, (hm.block _ (lt_of hb2) (by omega)).trans hb2⟩
      have hkl : (kidL n.kids).length ≤ 112 := Nat.le_trans (List.length_filter_le _ _) (hwf.ok n hnm).kl
      refine wpIn_rangeM (n := 6) (gf := 111) (lb := #[.pointer (some ⟨w.heap.size + 2, 0, none⟩), .pointer (some ⟨w.heap.size + 1, 0, none⟩)]) (by decide) rfl (enters_of Tryz.func111 (by kernel_rfl) rfl)
        (kids1_ok (6 - 1) ρ b mb cnt T am vk (w.heap.size + 2) (w.heap.size + 1) n hwf hnm _ hoK) (fun _ => rfl)
        (fun pre W => (∃ v, W.heap[w.heap.size]? = some (boxO v 69) ∧ OwnA W (W0.heap.size + 2) 13 v pre.length (flatR St.cells (pre.map (kstF T.L)))) ∧ Mod (· = w.heap.size) W0 W) (fun _ _ => False)
        (HoldsM.and (holdsM_own (by omega) 69 13 (fun pre : List Nat => pre.length) (fun pre => flatR St.cells (pre.map (kstF T.L)))) (holdsM_mod _ _)) (holdsM_pure _ _) (holdsM_mod _ _) (Mod.refl _ _) ⟨⟨_, hb1, OwnA.nil _ _ _⟩, Mod.refl _ _⟩
        (fun x a' W => a' = { tmps := #[.pointer (some ⟨b, 0, none⟩), .int .u64 p, undef, undef, .slice none 0 0, .int .i64 0, .pointer (some ⟨am p, 0, none⟩), .int .i64 0, .pointer (some ⟨w.heap.size, 0, none⟩), .pointer (some ⟨am x, 0, none⟩), .tuple #[.pointer (some ⟨am p, 0, none⟩), .int .i64 0], .pointer (some ⟨b, 0, none⟩), .int .u64 p, .tuple #[.pointer (some ⟨am p, 0, none⟩), .int .i64 0],
          .pointer (some ⟨am p, 0, none⟩), .int .i64 0, .bool false, .int .i64 0, .bool false, undef, .bool false, .pointer (some ⟨am p, 0, none⟩), .bool true, .bool false, .pointer (some ⟨b, 0, none⟩), .pointer (some ⟨am p, 0, none⟩), .func (.func 111) #[] #[.pointer (some ⟨w.heap.size + 1 + 1, 0, none⟩), .pointer (some ⟨w.heap.size + 1, 0, none⟩)], .pointer (some ⟨am x, 0, none⟩), undef, undef, undef, undef, undef, undef], defers := [] }) ?hA1 ?round ?body ?done ?stop
      case hA1 => intro x a' A R R' h hR; exact h
      case round =>
        rintro l pre x W K hi ho hsp hnc hK
        simp only [ptrE]
        gi_wp2
        exact hK _ _ (Mod.refl _ _) rfl
      case body =>
        rintro l pre x a' W ⟨⟨v, hi, hown⟩, _⟩ ho hsp rfl hnc
        obtain ⟨d, hd⟩ : ∃ d, look T.L x = some d := by
          obtain ⟨r, hr⟩ := hsp
          have hx : x ∈ kidL n.kids := by rw [← hr]; simp
          unfold kidL at hx
          obtain ⟨h1, h2⟩ := List.mem_filter.1 hx
          obtain ⟨d, hd, _⟩ := hwf.kid n hnm x h1 (by simpa using h2)
          exact ⟨d, hd⟩
        obtain ⟨hdm, hdp⟩ := look_some hd
        have hpl : pre.length < 112 := by
          have h1 := hsp.length_le
          rw [List.length_append, List.length_singleton] at h1
          omega
        have hWs : W0.heap.size + 2 ≤ W.heap.size := by
          obtain ⟨ob, hob, _⟩ := hnc (W0.heap.size + 1) (.inr rfl)
          have := lt_of hob
          omega
        have cB : ∀ U, Mod (fun k => some k = v.ownBlock) W U → U.cell? ⟨w.heap.size, 0, none⟩ = some v := fun U hU => (World.cell?_of_block (a := ⟨w.heap.size, 0, none⟩) (hU.block _ (lt_of hi) (fun e => by have := (hown.lt w.heap.size e).1; omega))).trans ((cell_of hi 0).trans rfl)
        have hTd : ∀ U, Mod (fun k => some k = v.ownBlock) W U → Calls Tryz.prog 47 #[.pointer (some ⟨am x, 0, none⟩)] U fun e w' => e = .returned (.agg (statOf d).cells.toArray) ∧ Mod (fun _ => False) U w' := fun U hU => by
          have h3 := hoT U (ho.trans' hU fun k hk e => by have := (hown.lt _ e).1; omega)
          have h4 := ptold_any (am d.path) d (vk d.path) U (h3.node d hdm) (hwf.ok d hdm).data
          rw [hdp] at h4
          exact h4
        have hks : kstF T.L x = statOf d := by unfold kstF; rw [hd]; rfl
        have HO := Lib.hid hown
        have HI := Lib.hid hi
        have HOo := Lib.hid ho
        have HT := Lib.hid hTd
        have HNC := Lib.hid hnc
        have HKS := Lib.hid hks
        clear hown hi ho hTd hnc hks hd hdm hdp hsp hoT hoK hsn hb1 hb2 hb3
        gi_wp2
        refine wpIn_region_then3_round (k := 5) (S := fun w' => Hid (Mod (fun k => some k = v.ownBlock) W w')) _ _ rfl rfl rfl (by kernel_rfl) (by kernel_rfl) (by kernel_rfl) (Lib.hid (Mod.refl (fun k => some k = v.ownBlock) W).drew) (fun hHeld => ?_)
        simp only [List.take_succ_cons, List.take_zero]
        refine hT 0 rfl (fun wH hSw => by have cH := cB wH hSw.out; clear hSw; go_simp; all_goals with_reducible rfl) ?_
        try simp only [gA, gB, gC, Act.put, sA, sB, sC]
        refine hT 1 rfl (fun _ _ => by go_simp; all_goals with_reducible rfl) ?_
        try simp only [gA, gB, gC, Act.put, sA, sB, sC]
        refine hR1 2 rfl fun K hK => ?_
        go_simp
        refine (HT.out _ hHeld.out).mono ?_
        rintro e w4 ⟨rfl, m4⟩
        refine hK.out _ _ (Lib.hid (hHeld.out.trans (m4.mono fun _ _ x => x.elim))) ?_; clear hK K hHeld; intro hHeld
        try simp only [gA, gB, gC, Act.put, sA, sB, sC]
        have hb1 : (statOf d).cells.length = 13 := rfl
        have hb2 := bs_fold (statOf d)
        refine hR1 3 rfl fun K hK => ?_
        go_simp
        clear hb1 hb2
        have mA := hHeld.out.alloc (.cells (statOf d).cells.toArray 37)
        have HO2 : Hid (OwnA (w4.alloc (.cells (statOf d).cells.toArray 37)) (W0.heap.size + 2) 13 v pre.length (flatR St.cells (pre.map (kstF T.L)))) := HO.out.mod (Mod.alloc (Mod.ofDrew m4) _) fun _ _ x => x
        have A2 := Lib.hid (src_st1 (statOf d) w4)
        have A3 : Hid ((pre.length + 1) * 112 ≤ 140737488355328) := (show _ ≤ _ by omega)
        have A4 : Hid (pre.length + 1 ≤ 9223372036854775807) := (show _ ≤ _ by omega)
        have A5 : Hid (W0.heap.size + 2 ≤ (w4.alloc (.cells (statOf d).cells.toArray 37)).heap.size) := Nat.le_trans hWs mA.size
        refine hK.out _ _ (Lib.hid (mA)) ?_; clear hK K hHeld; intro hHeld
        try simp only [gA, gB, gC, Act.put, sA, sB, sC]
        refine hR1 4 rfl fun K hK => ?_
        refine Eq.mpr (if_pos ?hwant) ?_
        case hwant => rfl
        refine op_append (.tmp 28) (.tmp 31) _ _ rfl (W0.heap.size + 2) 37 (.agg #[.int .u16 0, .int .u32 0, .int .u8 0, .int .u32 0, .int .u64 0, .int .u32 0, .int .u32 0, .int .u32 0, .int .u64 0, .string { data := #[] }, .string { data := #[] }, .string { data := #[] }, .string { data := #[] }]) 13 112 Tryz.underlying69 info_stat rfl (by decide) v _ _ rfl HO2.out _ _ _ rfl A2.out A3.out A4.out A5.out ?_
        intro v' w5 hown' hgrow _
        obtain ⟨g', cap', rfl⟩ := OwnA.succ hown'
        obtain ⟨v', hv'⟩ : ∃ v', v' = Value.slice (some ⟨g', 0, none⟩) (pre.length + 1) cap' := ⟨_, rfl⟩
        rw [← hv'] at hown'
        have m5 := hHeld.out.trans hgrow
        have hfl : flatR St.cells (pre.map (kstF T.L)) ++ (statOf d).cells = flatR St.cells ((pre ++ [x]).map (kstF T.L)) := by rw [List.map_append, flatR_append, List.map_singleton, HKS.out]; simp [flatR]
        have HO3 : Hid (OwnA w5 (W0.heap.size + 2) 13 v' (pre ++ [x]).length (flatR St.cells ((pre ++ [x]).map (kstF T.L)))) := by show OwnA _ _ _ _ _ _; rw [List.length_append, ← hfl]; exact hown'
        clear hown' hgrow hfl A2 A3 A4 A5 HO2
        refine hK.out _ _ (Lib.hid (m5)) ?_; clear hK K hHeld; intro hHeld
        try simp only [gA, gB, gC, Act.put, sA, sB, sC]
        refine wpAnyH_done (by kernel_rfl) ?_ _
        intro K hK
        have hbx := (hHeld.out.block _ (lt_of HI.out) (fun e => by have := (HO.out.lt _ e).1; omega)).trans HI.out
        have cx : w5.cell? ⟨w.heap.size, 0, none⟩ = some v := (cell_of hbx 0).trans rfl
        have fx : w5.frozen? ⟨w.heap.size, 0, none⟩ = false := free_of hbx 0
        go_simp
        refine hK _ _ ?_
        refine onlyN_out ?_
        rw [← hv']
        have hs := Mod.set1 w5 w.heap.size 0 v'
        have hWW : Mod (fun k => k = w.heap.size ∨ some k = v.ownBlock) W (w5.setCell ⟨w.heap.size, 0, none⟩ v') := (hHeld.out.mono fun k _ e => .inr e).trans (hs.mono fun k _ e => .inl e)
        have hoW : Mod (· = w.heap.size) W0 (w5.setCell ⟨w.heap.size, 0, none⟩ v') := HOo.out.trans' hWW fun k hk e => by
          rcases e with e | e
          · exact e
          · have := (HO.out.lt _ e).1; omega
        have hfin : ∀ a, BodyPostM W0.heap.size (fun W => Mod (· = w.heap.size) W0 W) (fun pre W => (∃ v, W.heap[w.heap.size]? = some (boxO v 69) ∧ OwnA W (W0.heap.size + 2) 13 v pre.length (flatR St.cells (pre.map (kstF T.L)))) ∧ Mod (· = w.heap.size) W0 W) (fun _ _ => False) (pre ++ [x]) W .normal a (w5.setCell ⟨w.heap.size, 0, none⟩ v') := fun a => by
          refine ⟨hoW, fun k hk => ?_, ⟨v', heap_set hbx 0 v', HO3.out.mod hs fun k hk e => by omega⟩, hoW⟩
          obtain ⟨ob, hob, _⟩ := HNC.out k hk
          refine hWW.block k (lt_of hob) fun e => ?_
          rcases e with e | e
          · omega
          · have := (HO.out.lt _ e).1; omega
        have hfin2 := hfin
        rw [hsz] at hfin2
        gi_wp2
        all_goals first | exact hfin _ | exact hfin2 _ | (rw [← hv']; exact hfin _) | (rw [← hv']; exact hfin2 _)
      case done =>
        rintro xs W rfl ⟨⟨v, hi, hown⟩, hmW⟩ hD
        have c1 : W.cell? ⟨w.heap.size, 0, none⟩ = some v := (cell_of hi 0).trans rfl
        have HV : Hid (listT T p = ((kidL n.kids).map (kstF T.L), 0)) := HS3.out
        have hm1 : Mod (fun _ => False) w (W.putObj W0.heap.size (.deferred none)) := (hm0.trans' hmW fun k hk e => by omega).trans' (mod_putR _) fun k hk e => by omega
        have ho1 := (hown.mod (mod_putR (k := W0.heap.size) (.deferred none)) fun k hk e => by omega).recs (cs := St.cells) (sz := 13) (by decide) st_len
        gi_wp2
        refine ⟨by simp, .inl ⟨_, _, rfl, run_takeDeferred hD, ?_⟩⟩
        exact ⟨.tuple #[v, .int .i64 0], by simp [results, Tryz.f31, go_sem], v, by rw [HV.out], by rw [HV.out]; exact ho1.imp fun k hk => by omega, hm1⟩
      case stop => rintro pre W _ h; exact h.elim
end Go.Proofs.YtkcnbbjmkkaolaaGreatDoor
