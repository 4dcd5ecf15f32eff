/- The document's tree: Read, User; kids by places, List.
   The document's tree: Walk.
   The document's tree: List.
   The document's tree in memory, its own; a file is touched. -/
import Derived.Test.YtkcnbbjmkkaolaaGreatDoorQG01
import Derived.Test.YtkcnbbjmkkaolaaGreatDoorQG00
set_option linter.unusedVariables false
set_option linter.unusedSimpArgs false
namespace Go.Proofs.YtkcnbbjmkkaolaaGreatDoor
open Go.RowKit

theorem ext_list (s : ByteArray) (i j : Nat) : (s.extract i j).data.toList = (s.data.toList.take j).drop i := by
  rw [ByteArray.data_extract, Array.toList_extract]
  simp [List.drop_take]
theorem bytes_eqL {a b : ByteArray} (h : a.data.toList = b.data.toList) : a = b := ByteArray.ext (Array.toList_inj.1 h)
theorem readB_past {s : ByteArray} {off count : Nat} (h : s.size ≤ off) : readB s off count = ByteArray.empty := by
  apply bytes_eqL
  unfold readB
  rw [ext_list, Nat.min_eq_right h]
  apply List.eq_nil_of_length_eq_zero
  rw [List.length_drop, List.length_take]
  omega
theorem readB_part {s : ByteArray} {off count : Nat} (h : off < s.size) (hc : count < (s.extract off s.size).size) : readB s off count = (s.extract off s.size).extract 0 count := by
  rw [ByteArray.size_extract] at hc
  apply bytes_eqL
  unfold readB
  rw [ext_list, ext_list, ext_list, Nat.min_eq_left (by omega), Nat.min_eq_left (by omega), List.drop_zero, List.take_drop, List.take_take]
  congr 1
  rw [Nat.min_eq_left (by omega)]
theorem readB_rest {s : ByteArray} {off count : Nat} (h : off < s.size) (hc : ¬ count < (s.extract off s.size).size) : readB s off count = s.extract off s.size := by
  rw [ByteArray.size_extract] at hc
  unfold readB
  rw [Nat.min_eq_left (by omega), Nat.min_eq_right (by omega)]
set_option maxHeartbeats 1000000 in
set_option maxRecDepth 100000 in
theorem rRead_any (b g cap : Nat) (T : Tr) (vks : Nat → Value) (p off count : Nat) (w : World) (h : RV w b g cap T vks) (hl : T.L.length ≤ 1024) (hok : Okn T) (ho : off < 18446744073709551616) (hc : count < 4294967296) :
    Calls Tryz.prog 41 #[.pointer (some ⟨b, 0, none⟩), .int .u64 p, .int .u64 off, .int .u32 count] w fun e w' => e = .returned (.tuple #[.string (readT T p off count).1, .int .i64 (readT T p off count).2]) ∧ w = w' := by
  have hA := at_any b g cap T vks p w h hl
  have HS : Hid (readT T p off count = match look T.L p with | none => (ByteArray.empty, 180) | some n => if n.dir = true then (ByteArray.empty, 181) else (readB n.data off count, 0)) := rfl
  have c0 := h.c0
  have hcap := h.cap
  have HR := Lib.hid h
  have hw1 : IntKind.u64.wrap (count : Int) = count := by rw [IntKind.wrap_u64]; omega
  clear h
  cases hlk : look T.L p with
  | none =>
    rw [atI_none hlk] at hA
    have HS2 : Hid (readT T p off count = (ByteArray.empty, 180)) := by show _ = _; rw [HS.out, hlk]
    clear HS hlk
    go_enter Tryz.func41, Tryz.ntmps41
    go_wp2_with fail
    refine hA.mono ?_
    rintro e w1 ⟨rfl, rfl⟩
    go_wp2
    go_ret2
    exact ⟨by rw [HS2.out]; rfl, rfl⟩
  | some n =>
    obtain ⟨i, hi, hn, hil⟩ := look_get hlk
    rw [atI_some hi] at hA
    have t1 : decide ((i : Int) < 0) = false := by simp
    have e1 : w.cell? ⟨g, i * 13 + 1, none⟩ = some (.bool n.dir) := HR.out.el i n hn 1 _ rfl
    have e11 : w.cell? ⟨g, i * 13 + 11, none⟩ = some (.string n.data) := HR.out.el i n hn 11 _ rfl
    have i1 : (0 : Int) ≤ (i : Int) := by omega
    have i2 : (i : Int) < (T.L.length : Int) := by omega
    have i3 : (T.L.length : Int) ≤ (cap : Int) := by omega
    have hdl := (okn_at hok hn).data
    have HS2 : Hid (readT T p off count = if n.dir = true then (ByteArray.empty, 181) else (readB n.data off count, 0)) := by show _ = _; rw [HS.out, hlk]
    clear HS hlk hi hn
    cases hd : n.dir with
    | true =>
      rw [hd] at e1
      have HS3 : Hid (readT T p off count = (ByteArray.empty, 181)) := HS2.out.trans (if_pos hd)
      clear HS2 hd
      go_enter Tryz.func41, Tryz.ntmps41
      go_wp2_with fail
      refine hA.mono ?_
      rintro e w1 ⟨rfl, rfl⟩
      clear hA
      go_wp2
      go_ret2
      exact ⟨by rw [HS3.out]; rfl, rfl⟩
    | false =>
      rw [hd] at e1
      have HS3 : Hid (readT T p off count = (readB n.data off count, 0)) := HS2.out.trans (if_neg (by rw [hd]; simp))
      clear HS2 hd
      generalize n.data = s at *
      have hw2 : IntKind.u64.wrap (s.size : Int) = s.size := by rw [IntKind.wrap_u64]; omega
      by_cases h1 : s.size ≤ off
      · have t2 : decide ((s.size : Int) ≤ (off : Int)) = true := by simp; omega
        have t2' : decide (s.size ≤ off) = true := by simp; omega
        rw [readB_past h1] at HS3
        go_enter Tryz.func41, Tryz.ntmps41
        go_wp2_with fail
        refine hA.mono ?_
        rintro e w1 ⟨rfl, rfl⟩
        clear hA
        go_wp2
        go_ret2
        exact ⟨by rw [HS3.out]; rfl, rfl⟩
      have t2 : decide ((s.size : Int) ≤ (off : Int)) = false := by simp; omega
      have t2' : decide (s.size ≤ off) = false := by simp; omega
      have b1 : (0 : Int) ≤ (off : Int) := by omega
      have b2 : (off : Int) ≤ s.size := by omega
      have b2' : off ≤ s.size := by omega
      have hsx : (s.extract off s.size).size = s.size - off := by rw [ByteArray.size_extract]; omega
      have hp1 := fun h => readB_part (s := s) (off := off) (count := count) (by omega) h
      have hp2 := fun h => readB_rest (s := s) (off := off) (count := count) (by omega) h
      obtain ⟨t, ht⟩ : ∃ t, s.extract off s.size = t := ⟨_, rfl⟩
      rw [ht] at hsx hp1 hp2
      have hw3 : IntKind.u64.wrap (t.size : Int) = t.size := by rw [IntKind.wrap_u64]; omega
      by_cases h2 : count < t.size
      · have t3 : decide ((count : Int) < (t.size : Int)) = true := by simp; omega
        have t3' : decide (count < t.size) = true := by simp; omega
        have b3 : (0 : Int) ≤ (count : Int) := by omega
        have b4 : (count : Int) ≤ t.size := by omega
        have b4' : count ≤ t.size := by omega
        rw [hp1 h2] at HS3
        clear hp1 hp2 hsx
        go_enter Tryz.func41, Tryz.ntmps41
        go_wp2_with fail
        refine hA.mono ?_
        rintro e w1 ⟨rfl, rfl⟩
        clear hA
        go_wp2
        go_ret2
        exact ⟨by rw [HS3.out]; rfl, rfl⟩
      · have t3 : decide ((count : Int) < (t.size : Int)) = false := by simp; omega
        have t3' : decide (count < t.size) = false := by simp; omega
        rw [hp2 h2] at HS3
        clear hp1 hp2 hsx
        go_enter Tryz.func41, Tryz.ntmps41
        go_wp2_with fail
        refine hA.mono ?_
        rintro e w1 ⟨rfl, rfl⟩
        clear hA
        go_wp2
        go_ret2
        exact ⟨by rw [HS3.out]; rfl, rfl⟩
theorem ruser_any (s : ByteArray) (w : World) (hs : s.size ≤ 1099511627776) (hT : Tabs w) :
    Calls Tryz.prog 11 #[.string s] w fun e w' => e = .returned (.bool (userOk s)) ∧ Mod (fun _ => False) w w' := by
  have hN := rname_any s w hs hT
  have HU : Hid (userOk s = (nameOk s && decide (s.size ≤ 20))) := rfl
  cases hn : nameOk s with
  | false =>
    rw [hn] at hN
    have HV : Hid (userOk s = false) := by show _ = _; rw [HU.out, hn]; rfl
    go_enter Tryz.func11, Tryz.ntmps11
    go_wp2_with fail
    refine hN.mono ?_
    rintro e w1 ⟨rfl, m1⟩
    go_wp2
    go_ret
    exact ⟨by rw [HV.out]; rfl, m1⟩
  | true =>
    rw [hn] at hN
    by_cases h : s.size ≤ 20
    · have t1 : decide ((s.size : Int) ≤ 20) = true := by simp; omega
      have HV : Hid (userOk s = true) := by show _ = _; rw [HU.out, hn, decide_eq_true h]; rfl
      go_enter Tryz.func11, Tryz.ntmps11
      go_wp2_with fail
      refine hN.mono ?_
      rintro e w1 ⟨rfl, m1⟩
      go_wp2
      go_ret
      exact ⟨by rw [HV.out]; rfl, m1⟩
    · have t1 : decide ((s.size : Int) ≤ 20) = false := by simp; omega
      have HV : Hid (userOk s = false) := by show _ = _; rw [HU.out, hn, decide_eq_false h]; rfl
      go_enter Tryz.func11, Tryz.ntmps11
      go_wp2_with fail
      refine hN.mono ?_
      rintro e w1 ⟨rfl, m1⟩
      go_wp2
      go_ret
      exact ⟨by rw [HV.out]; rfl, m1⟩
end Go.Proofs.YtkcnbbjmkkaolaaGreatDoor
namespace Go.Proofs.YtkcnbbjmkkaolaaGreatDoor
open Go.RowKit

theorem dd_list : dotdot.toList = [46, 46] := by rw [ByteArray.toList_eq]; rfl
theorem qi_one (q : Qi) : ∀ u ∈ qiC q, u.oneCell' = true := by
  intro u hu
  simp only [qiC, List.mem_cons, List.not_mem_nil, or_false] at hu
  rcases hu with rfl | rfl | rfl <;> rfl
theorem qi_len (q : Qi) : (qiC q).length = 3 := rfl
theorem qi_all (q : Qi) : (qiC q).toArray.all (·.oneCell') = true := by
  rw [Array.all_eq_true_iff_forall_mem]; intro v hv; exact qi_one q v (by simpa using hv)
theorem qi_rng {w : World} {b : Nat} {q : Qi} (h : w.heap[b]? = some (.cells (qiC q).toArray 35 (0, 0))) : w.rangeAt b 0 (qiC q) := fun j u hu => by
  rw [Nat.zero_add, cell_of h, List.getElem?_toArray]; exact hu
def qiO (q : Qi) : Obj := .cells (qiC q).toArray 35 (0, 0)
theorem kid_atI {T : Tr} (hw : T.L.Pairwise fun a b => a.path < b.path) {name : ByteArray} {l : List Nat} {n : Nd} (h : kidGo T.L name l = some n) : ∃ i, kidFrom T.L name l = (i : Nat) ∧ T.L[i]? = some n ∧ i < T.L.length := by
  obtain ⟨_, hm, _⟩ := kidGo_some h
  obtain ⟨i, hi, hn, hl⟩ := look_get (look_of hw hm)
  exact ⟨i, by unfold kidFrom; rw [h]; exact atI_some hi, hn, hl⟩
theorem kid_none {T : Tr} {name : ByteArray} {l : List Nat} (h : kidGo T.L name l = none) : kidFrom T.L name l = -1 := by unfold kidFrom; rw [h]
set_option maxHeartbeats 4000000 in
set_option maxRecDepth 100000 in
theorem rWalk_any (b g cap : Nat) (T : Tr) (vks : Nat → Value) (p : Nat) (name who : ByteArray) (w : World) (h : RV w b g cap T vks) (hwf : WF T) (hnm : name.size ≤ 65536) (hTb : Tabs w) :
    Calls Tryz.prog 38 #[.pointer (some ⟨b, 0, none⟩), .int .u64 p, .string name, .string who] w fun e w' => e = .returned (.tuple #[.agg (qiC (walkT T p name who).1).toArray, .int .i64 (walkT T p name who).2]) ∧ Mod (fun _ => False) w w' := by
  have hl := hwf.len
  obtain ⟨V, hV⟩ : ∃ V, w.alloc (.cells #[.int .u8 0, .int .u32 0, .int .u64 0] 35) = V := ⟨_, rfl⟩
  have hv : V.heap[w.heap.size]? = some (qiO Qi.zero) := by subst hV; exact new_at _ _
  have m0 : Mod (fun _ => False) w V := by subst hV; exact (Mod.refl _ w).alloc _
  have hR := h.mod m0
  have hA := at_any b g cap T vks p V hR hl
  have HZ := Lib.hid hv
  have M0 := Lib.hid m0
  have HS : Hid (walkT T p name who = match look T.L p with | none => (Qi.zero, 180) | some n => if walkE T n name who ≠ 0 then (Qi.zero, walkE T n name who) else if name = dotdot then (qidOf (parOf T.L n), 0) else (((kidOf T.L n name).map qidOf).getD Qi.zero, 0)) := rfl
  have c0 := hR.c0
  have c0w := h.c0
  have H := Lib.hid h
  have hcap := h.cap
  have HR := Lib.hid hR
  have HTa := Lib.hid (hTb.mod m0)
  clear h hv m0 hR hTb
  cases hlk : look T.L p with
  | none =>
    rw [atI_none hlk] at hA
    have HV : Hid (walkT T p name who = (Qi.zero, 180)) := by show _ = _; rw [HS.out, hlk]
    clear HS hlk
    go_enter Tryz.func38, Tryz.ntmps38
    go_wp2_with fail
    refine hA.mono ?_
    rintro e w1 ⟨rfl, rfl⟩
    clear hA hV
    go_upto_region 3 with (fail)
    refine wp_region_lit ?_
    refine wpList_plain rfl fun K hK => ?_
    go_simp
    refine hK _ _ ?_
    clear hK K
    refine wpl_store_row rfl 35 (.tmp 8) (.tmp 17) rfl rfl w.heap.size (qiC Qi.zero) rfl rfl 35 _ HZ.out rfl (qi_one _) (by kernel_rfl) ?_
    intro V9 hv9 mv9
    refine wpList_plain rfl fun K hK => ?_
    go_simp
    refine hK _ _ ?_
    clear hK K
    refine wpList_nil ?_
    have MV : Hid (Mod (fun _ => False) w V9) := (M0.out).trans' mv9 fun k hk e => by omega
    go_wp2
    refine bodyPost_ret (results_cell2 rfl _ _ V9 w.heap.size (qiC Qi.zero) _ rfl (qi_rng hv9) Tryz.underlying35 rfl (by kernel_rfl)) rfl ⟨by rw [HV.out]; rfl, MV.out⟩
  | some n =>
    obtain ⟨i, hi, hn, hil⟩ := look_get hlk
    rw [atI_some hi] at hA
    have t1 : decide ((i : Int) < 0) = false := by simp
    have HS2 : Hid (walkT T p name who = if walkE T n name who ≠ 0 then (Qi.zero, walkE T n name who) else if name = dotdot then (qidOf (parOf T.L n), 0) else (((kidOf T.L n name).map qidOf).getD Qi.zero, 0)) := by show _ = _; rw [HS.out, hlk]
    have hno := hwf.ok n (List.mem_of_getElem? hn)
    have e1 : V.cell? ⟨g, i * 13 + 1, none⟩ = some (.bool n.dir) := HR.out.el i n hn 1 _ rfl
    have hre := HR.out.elem hn
    have i1 : (0 : Int) ≤ (i : Int) := by omega
    have i2 : (i : Int) < (T.L.length : Int) := by omega
    have i3 : (T.L.length : Int) ≤ (cap : Int) := by omega
    have hln := ndC_len (n, vks i)
    have hMy := rmay_any n (vks i) who 1 V (by decide) hno.perm
    clear HS hi
    have HE : Hid (walkE T n name who = if n.dir = false then 181 else if mayB n who 1 = false then 182 else if name = dotdot then 0 else if nameOk name = false then 183 else if kidOf T.L n name = none then 180 else 0) := rfl
    go_enter Tryz.func38, Tryz.ntmps38
    go_wp2_with fail
    refine hA.mono ?_
    rintro e w1 ⟨rfl, rfl⟩
    clear hA hV
    cases hd : n.dir with
    | false =>
      rw [hd] at e1
      have he : walkE T n name who = 181 := HE.out.trans (if_pos hd)
      have HV : Hid (walkT T p name who = (Qi.zero, 181)) := by show _ = _; rw [HS2.out, he]; rfl
      clear HS2 HE he hd hMy hre
      go_upto_region 5 with (fail)
      refine wp_region_lit ?_
      refine wpList_plain rfl fun K hK => ?_
      go_simp
      refine hK _ _ ?_
      clear hK K
      refine wpl_store_row rfl 35 (.tmp 8) (.tmp 27) rfl rfl w.heap.size (qiC Qi.zero) rfl rfl 35 _ HZ.out rfl (qi_one _) (by kernel_rfl) ?_
      intro V9 hv9 mv9
      refine wpList_plain rfl fun K hK => ?_
      go_simp
      refine hK _ _ ?_
      clear hK K
      refine wpList_nil ?_
      have MV : Hid (Mod (fun _ => False) w V9) := (M0.out).trans' mv9 fun k hk e => by omega
      go_wp2
      refine bodyPost_ret (results_cell2 rfl _ _ V9 w.heap.size (qiC Qi.zero) _ rfl (qi_rng hv9) Tryz.underlying35 rfl (by kernel_rfl)) rfl ⟨by rw [HV.out]; rfl, MV.out⟩
    | true =>
      rw [hd] at e1
      have HE2 := Lib.hid (HE.out.trans (if_neg (by rw [hd]; simp)))
      clear HE hd
      go_wp2_with (refine wpList_load_mid rfl 83 (.tmp 33) rfl g (i * 13) rfl (ndC (n, vks i)) _ hre Tryz.underlying83 rfl (by kernel_rfl) ?_)
      refine hMy.mono ?_
      rintro e w2 ⟨rfl, m2⟩
      have HZ2 : Hid (w2.heap[w.heap.size]? = some (qiO Qi.zero)) := (m2.block _ (lt_of HZ.out) (fun x => x)).trans HZ.out
      have M2 := Lib.hid (M0.out.trans m2)
      have HR2 := Lib.hid (HR.out.mod m2)
      have HT2 := Lib.hid (HTa.out.mod m2)
      have c0 := HR2.out.c0
      clear hMy hre HZ M0 HR HTa m2 e1
      cases hm : mayB n who 1 with
      | false =>
        have he : walkE T n name who = 182 := HE2.out.trans (if_pos hm)
        have HV : Hid (walkT T p name who = (Qi.zero, 182)) := by show _ = _; rw [HS2.out, he]; rfl
        clear HS2 HE2 he hm
        go_upto_region 7 with (fail)
        refine wp_region_lit ?_
        refine wpList_plain rfl fun K hK => ?_
        go_simp
        refine hK _ _ ?_
        clear hK K
        refine wpl_store_row rfl 35 (.tmp 8) (.tmp 38) rfl rfl w.heap.size (qiC Qi.zero) rfl rfl 35 _ HZ2.out rfl (qi_one _) (by kernel_rfl) ?_
        intro V9 hv9 mv9
        refine wpList_plain rfl fun K hK => ?_
        go_simp
        refine hK _ _ ?_
        clear hK K
        refine wpList_nil ?_
        have MV : Hid (Mod (fun _ => False) w V9) := (M2.out).trans' mv9 fun k hk e => by omega
        go_wp2
        refine bodyPost_ret (results_cell2 rfl _ _ V9 w.heap.size (qiC Qi.zero) _ rfl (qi_rng hv9) Tryz.underlying35 rfl (by kernel_rfl)) rfl ⟨by rw [HV.out]; rfl, MV.out⟩
      | true =>
        have HE3 := Lib.hid (HE2.out.trans (if_neg (by rw [hm]; simp)))
        clear HE2 hm
        by_cases hdd : name = dotdot
        · have t2 : (name.toList == [46, 46]) = true := by have h := str_beq name dotdot; rw [decide_eq_true hdd, dd_list] at h; exact h
          have he : walkE T n name who = 0 := HE3.out.trans (if_pos hdd)
          have HV : Hid (walkT T p name who = (qidOf (parOf T.L n), 0)) := by show _ = _; rw [HS2.out, he, if_neg (by simp), if_pos hdd]
          obtain ⟨d, hd⟩ := hwf.par n (List.mem_of_getElem? hn)
          have hpd : parOf T.L n = d := by unfold parOf; rw [hd]; rfl
          rw [hpd] at HV
          obtain ⟨j, hj, hjn, hjl⟩ := look_get hd
          have e9 : w.cell? ⟨g, i * 13 + 9, none⟩ = some (.int .u64 n.parent) := H.out.el i n hn 9 _ rfl
          have hA2 := fun U (hU : Mod (fun _ => False) w U) => at_any b g cap T vks n.parent U (H.out.mod hU) hl
          rw [atI_some hj] at hA2
          have hq := fun U => rqid_any d (vks j) U
          have j1 : (0 : Int) ≤ (j : Int) := by omega
          have j2 : (j : Int) < (T.L.length : Int) := by omega
          have hrow : ∀ U, Mod (fun _ => False) w U → U.rangeAt g (j * 13) (ndC (d, vks j)) := fun U hU => (H.out.mod hU).elem hjn
          have hdl := ndC_len (d, vks j)
          clear HS2 HE3 he hdd hd hpd hj hn c0
          go_upto_region 9 with (fail)
          refine wp_region_held_drew (S := fun w' => Hid (Mod (fun _ => False) w w')) (by kernel_rfl) (Lib.hid M2.out.drew) (fun hHeld => ?_)
          refine hT 0 rfl (fun _ _ => by go_simp; all_goals with_reducible rfl) ?_
          try simp only [gA, gB, gC, Act.put, sA, sB, sC]
          refine hT 1 rfl (fun _ _ => by go_simp; all_goals with_reducible rfl) ?_
          try simp only [gA, gB, gC, Act.put, sA, sB, sC]
          refine hT 2 rfl (fun _ _ => by go_simp; all_goals with_reducible rfl) ?_
          try simp only [gA, gB, gC, Act.put, sA, sB, sC]
          refine hT 3 rfl (fun wH hSw => by have cH := keepN hSw.out c0w; clear hSw; go_simp; all_goals with_reducible rfl) ?_
          try simp only [gA, gB, gC, Act.put, sA, sB, sC]
          refine hT 4 rfl (fun _ _ => by go_simp; all_goals with_reducible rfl) ?_
          try simp only [gA, gB, gC, Act.put, sA, sB, sC]
          refine hT 5 rfl (fun _ _ => by go_simp; all_goals with_reducible rfl) ?_
          try simp only [gA, gB, gC, Act.put, sA, sB, sC]
          refine hT 6 rfl (fun _ _ => by go_simp; all_goals with_reducible rfl) ?_
          try simp only [gA, gB, gC, Act.put, sA, sB, sC]
          refine hT 7 rfl (fun _ _ => by go_simp; all_goals with_reducible rfl) ?_
          try simp only [gA, gB, gC, Act.put, sA, sB, sC]
          refine hT 8 rfl (fun wH hSw => by have cH := keepN hSw.out c0w; clear hSw; go_simp; all_goals with_reducible rfl) ?_
          try simp only [gA, gB, gC, Act.put, sA, sB, sC]
          refine hT 9 rfl (fun _ _ => by go_simp; all_goals with_reducible rfl) ?_
          try simp only [gA, gB, gC, Act.put, sA, sB, sC]
          refine hT 10 rfl (fun _ _ => by go_simp; all_goals with_reducible rfl) ?_
          try simp only [gA, gB, gC, Act.put, sA, sB, sC]
          refine hT 11 rfl (fun _ _ => by go_simp; all_goals with_reducible rfl) ?_
          try simp only [gA, gB, gC, Act.put, sA, sB, sC]
          refine hT 12 rfl (fun wH hSw => by have cH := keepN hSw.out e9; clear hSw; go_simp; all_goals with_reducible rfl) ?_
          try simp only [gA, gB, gC, Act.put, sA, sB, sC]
          refine hR1 13 rfl fun K hK => ?_
          go_simp
          refine (hA2 _ hHeld.out).mono ?_
          rintro e w4 ⟨rfl, rfl⟩
          refine hK.out _ _ (Lib.hid (hHeld.out)) ?_; clear hK K hHeld; intro hHeld
          try simp only [gA, gB, gC, Act.put, sA, sB, sC]
          refine hT 14 rfl (fun _ _ => by go_simp; all_goals with_reducible rfl) ?_
          try simp only [gA, gB, gC, Act.put, sA, sB, sC]
          refine hTy 15 rfl (by kernel_rfl) (fun _ _ _ h => h) (by assumption) (yieldsIf_load_mid (by rfl) 83 (.tmp 55) rfl g (j * 13) rfl (ndC (d, vks j)) _ (fun wH hSw => hrow wH hSw.out) Tryz.underlying83 rfl (by kernel_rfl)) ?_
          try simp only [gA, gB, gC, Act.put, sA, sB, sC]
          refine hR1 16 rfl fun K hK => ?_
          go_simp
          refine (hq _).mono ?_
          rintro e w4 ⟨rfl, m4⟩
          have hz4 := (m4.block _ (lt_of (w := w2.drew) HZ2.out) (fun x => x)).trans (show w2.drew.heap[w.heap.size]? = _ from HZ2.out)
          refine hK.out _ _ (Lib.hid (hHeld.out.trans m4)) ?_; clear hK K hHeld; intro hHeld
          try simp only [gA, gB, gC, Act.put, sA, sB, sC]
          refine hR1 17 rfl fun K hK => ?_
          refine Eq.mpr (if_pos ?hwant) ?_
          case hwant => rfl
          refine wp_store_row 35 (.tmp 8) (.tmp 57) rfl w.heap.size (qiC (qidOf d)).toArray rfl rfl 35 _ hz4 (by kernel_rfl) rfl (qi_all _) ?_
          have hb9 := setRow_heap _ w.heap.size _ (qiC (qidOf d)).toArray 35 _ hz4
          have m9 := mod_setRow w4 w.heap.size (qiC (qidOf d)).toArray
          refine hK.out _ _ (Lib.hid (hHeld.out.trans' m9 fun k hk e => by omega)) ?_; clear hK K hHeld; intro hHeld
          try simp only [gA, gB, gC, Act.put, sA, sB, sC]
          refine hT 18 rfl (fun _ _ => by go_simp; all_goals with_reducible rfl) ?_
          try simp only [gA, gB, gC, Act.put, sA, sB, sC]
          refine wpAnyH_done (by kernel_rfl) ?_ _
          go_wp2
          refine bodyPost_ret (results_cell2 rfl _ _ _ w.heap.size (qiC (qidOf d)) _ rfl (qi_rng hb9) Tryz.underlying35 rfl (by kernel_rfl)) rfl ⟨by rw [HV.out]; rfl, hHeld.out⟩
        · have t2 : (name.toList == [46, 46]) = false := by
            have h := str_beq name dotdot
            rw [decide_eq_false hdd, dd_list] at h
            exact h
          have HE4 := Lib.hid (HE3.out.trans (if_neg hdd))
          have hN := rname_any name w2 (by omega) HT2.out
          go_wp2_with fail
          refine hN.mono ?_
          rintro e w3 ⟨rfl, m3⟩
          have HZ3 : Hid (w3.heap[w.heap.size]? = some (qiO Qi.zero)) := (m3.block _ (lt_of HZ2.out) (fun x => x)).trans HZ2.out
          have M3 := Lib.hid (M2.out.trans m3)
          have HR3 := Lib.hid (HR2.out.mod m3)
          have c0 := HR3.out.c0
          clear hN HZ2 M2 HR2 HT2 m3 HE3
          cases hnk : nameOk name with
          | false =>
            have he : walkE T n name who = 183 := HE4.out.trans (if_pos hnk)
            have HV : Hid (walkT T p name who = (Qi.zero, 183)) := by show _ = _; rw [HS2.out, he]; rfl
            clear HS2 HE4 he hnk
            go_upto_region 11 with (fail)
            refine wp_region_lit ?_
            refine wpList_plain rfl fun K hK => ?_
            go_simp
            refine hK _ _ ?_
            clear hK K
            refine wpl_store_row rfl 35 (.tmp 8) (.tmp 61) rfl rfl w.heap.size (qiC Qi.zero) rfl rfl 35 _ HZ3.out rfl (qi_one _) (by kernel_rfl) ?_
            intro V9 hv9 mv9
            refine wpList_plain rfl fun K hK => ?_
            go_simp
            refine hK _ _ ?_
            clear hK K
            refine wpList_nil ?_
            have MV : Hid (Mod (fun _ => False) w V9) := (M3.out).trans' mv9 fun k hk e => by omega
            go_wp2
            refine bodyPost_ret (results_cell2 rfl _ _ V9 w.heap.size (qiC Qi.zero) _ rfl (qi_rng hv9) Tryz.underlying35 rfl (by kernel_rfl)) rfl ⟨by rw [HV.out]; rfl, MV.out⟩
          | true =>
            have HE5 := Lib.hid (HE4.out.trans (if_neg (by rw [hnk]; simp)))
            have hKd := rkid_any b g cap T vks i n name w3 HR3.out hl hn (by have := hno.kl; omega)
            clear HE4 hnk
            cases hk : kidGo T.L name n.kids with
            | none =>
              have hko : kidOf T.L n name = none := hk
              have he : walkE T n name who = 180 := HE5.out.trans (if_pos hko)
              have HV : Hid (walkT T p name who = (Qi.zero, 180)) := by show _ = _; rw [HS2.out, he]; rfl
              rw [kid_none hk] at hKd
              clear HS2 HE5 he hk hko hn
              go_wp2_with fail
              refine hKd.mono ?_
              rintro e w4 ⟨rfl, rfl⟩
              clear hKd
              go_upto_region 14 with (fail)
              refine wp_region_lit ?_
              refine wpList_plain rfl fun K hK => ?_
              go_simp
              refine hK _ _ ?_
              clear hK K
              refine wpl_store_row rfl 35 (.tmp 8) (.tmp 68) rfl rfl w.heap.size (qiC Qi.zero) rfl rfl 35 _ HZ3.out rfl (qi_one _) (by kernel_rfl) ?_
              intro V9 hv9 mv9
              refine wpList_plain rfl fun K hK => ?_
              go_simp
              refine hK _ _ ?_
              clear hK K
              refine wpList_nil ?_
              have MV : Hid (Mod (fun _ => False) w V9) := (M3.out).trans' mv9 fun k hk e => by omega
              go_wp2
              refine bodyPost_ret (results_cell2 rfl _ _ V9 w.heap.size (qiC Qi.zero) _ rfl (qi_rng hv9) Tryz.underlying35 rfl (by kernel_rfl)) rfl ⟨by rw [HV.out]; rfl, MV.out⟩
            | some d =>
              obtain ⟨j, hj, hjn, hjl⟩ := kid_atI hwf.rise hk
              have hko : kidOf T.L n name = some d := hk
              have he : walkE T n name who = 0 := HE5.out.trans (if_neg (by rw [hko]; simp))
              have HV : Hid (walkT T p name who = (qidOf d, 0)) := by show _ = _; rw [HS2.out, he, if_neg (by simp), if_neg hdd, hko]; rfl
              rw [hj] at hKd
              have t3 : decide ((j : Int) < 0) = false := by simp
              have j1 : (0 : Int) ≤ (j : Int) := by omega
              have j2 : (j : Int) < (T.L.length : Int) := by omega
              have hrow := HR3.out.elem hjn
              have hdl := ndC_len (d, vks j)
              have hq := fun U => rqid_any d (vks j) U
              clear HS2 HE5 he hk hko hn hj
              go_wp2_with fail
              refine hKd.mono ?_
              rintro e w4 ⟨rfl, rfl⟩
              clear hKd
              go_wp2_with (refine wpList_load_mid rfl 83 (.tmp 74) rfl g (j * 13) rfl (ndC (d, vks j)) _ hrow Tryz.underlying83 rfl (by kernel_rfl) ?_)
              refine (hq _).mono ?_
              rintro e w5 ⟨rfl, m5⟩
              have HZ5 : Hid (w5.heap[w.heap.size]? = some (qiO Qi.zero)) := (m5.block _ (lt_of HZ3.out) (fun x => x)).trans HZ3.out
              have M5 := Lib.hid (M3.out.trans m5)
              clear hq hrow m5
              go_wp2_with (refine wpl_store_row rfl 35 (.tmp 8) (.tmp 76) rfl rfl w.heap.size (qiC (qidOf d)) rfl rfl 35 _ HZ5.out rfl (qi_one _) (by kernel_rfl) ?_; intro V9 hv9 mv9)
              have MV : Hid (Mod (fun _ => False) w V9) := (M5.out).trans' mv9 fun k hk e => by omega
              refine bodyPost_ret (results_cell2 rfl _ _ V9 w.heap.size (qiC (qidOf d)) _ rfl (qi_rng hv9) Tryz.underlying35 rfl (by kernel_rfl)) rfl ⟨by rw [HV.out]; rfl, MV.out⟩
end Go.Proofs.YtkcnbbjmkkaolaaGreatDoor
namespace Go.Proofs.YtkcnbbjmkkaolaaGreatDoor
open Go.RowKit

theorem info_stat : (Tryz.prog.info? 37).map (fun i => (i.zero, i.size, i.bytes)) = some (some (.agg #[.int .u16 0, .int .u32 0, .int .u8 0, .int .u32 0, .int .u64 0, .int .u32 0, .int .u32 0, .int .u32 0, .int .u64 0, .string { data := #[] }, .string { data := #[] }, .string { data := #[] }, .string { data := #[] }]), 13, 112) := by kernel_rfl
theorem src_st1 (s : St) (wr : World) : Src Tryz.prog 13 69 (.slice (some ⟨wr.heap.size, 0, none⟩) 1 1) 1 s.cells (wr.alloc (.cells s.cells.toArray 37)) :=
  Src.ofSlice _ Tryz.underlying69 _ _ _ _ rfl (fun j u hj => by rw [Addr.add_mid, Nat.zero_add, cell_of (new_at wr _), List.getElem?_toArray]; exact hj) (st_one s)
theorem bs_fold (s : St) : List.foldl (fun (cs : Array Value) (x : Value × Nat) => cs.setIfInBounds x.snd x.fst) #[.int .u16 0, .int .u32 0, .int .u8 0, .int .u32 0, .int .u64 0, .int .u32 0, .int .u32 0, .int .u32 0, .int .u64 0, .string { data := #[] }, .string { data := #[] }, .string { data := #[] }, .string { data := #[] }] s.cells.zipIdx = s.cells.toArray := by kernel_rfl
def kstF (L : List Nd) (k : Nat) : St := ((look L k).map statOf).getD St.none
def kstT (L : List Nd) (l : List Nat) : List St := (l.filter fun k => decide (k ≠ 0)).map (kstF L)
theorem kst_zero {L : List Nd} {l : List Nat} {j : Nat} (h : j < l.length) (hz : l[j] = 0) : kstT L (l.take (j + 1)) = kstT L (l.take j) := by
  unfold kstT
  rw [List.take_succ_eq_append_getElem h, List.filter_append, List.map_append]
  simp [hz]
theorem kst_some {L : List Nd} {l : List Nat} {j : Nat} {d : Nd} (h : j < l.length) (hz : l[j] ≠ 0) (hd : look L l[j] = some d) : kstT L (l.take (j + 1)) = kstT L (l.take j) ++ [statOf d] := by
  unfold kstT
  rw [List.take_succ_eq_append_getElem h, List.filter_append, List.map_append]
  congr 1
  simp [hz, kstF, hd]
theorem kst_len {L : List Nd} {l : List Nat} {j : Nat} : (kstT L (l.take j)).length ≤ l.length := by
  unfold kstT
  rw [List.length_map]
  exact Nat.le_trans (List.length_filter_le _ _) (by rw [List.length_take]; omega)
set_option maxHeartbeats 1000000 in
set_option maxRecDepth 100000 in
theorem rList_any (b g cap : Nat) (T : Tr) (vks : Nat → Value) (p : Nat) (w : World) (h : RV w b g cap T vks) (hwf : WF T) :
    Calls Tryz.prog 42 #[.pointer (some ⟨b, 0, none⟩), .int .u64 p] w fun e w' => ∃ v, e = .returned (.tuple #[v, .int .i64 (listT T p).2]) ∧ RecsAt St.cells 13 w' (w.heap.size ≤ ·) v (listT T p).1 ∧ Mod (fun _ => False) w w' := by
  have hl := hwf.len
  have hA := at_any b g cap T vks p w h hl
  have HS : Hid (listT T p = match look T.L p with | none => ([], 180) | some n => if n.dir = false then ([], 181) else (kidSts T.L n, 0)) := rfl
  have c0 := h.c0
  have hcap := h.cap
  have H := Lib.hid h
  clear h
  cases hlk : look T.L p with
  | none =>
    rw [atI_none hlk] at hA
    have HS2 : Hid (listT T p = ([], 180)) := by show _ = _; rw [HS.out, hlk]
    clear HS hlk
    go_enter Tryz.func42, Tryz.ntmps42
    go_wp2_with fail
    refine hA.mono ?_
    rintro e w1 ⟨rfl, rfl⟩
    go_wp2
    go_ret2
    exact ⟨_, by rw [HS2.out]; rfl, by rw [HS2.out]; exact .inl ⟨rfl, none, 0, rfl⟩, Mod.refl _ _⟩
  | some n =>
    obtain ⟨i, hi, hn, hil⟩ := look_get hlk
    rw [atI_some hi] at hA
    have t1 : decide ((i : Int) < 0) = false := by simp
    have hno := hwf.ok n (List.mem_of_getElem? hn)
    have hnm := List.mem_of_getElem? hn
    have e1 : w.cell? ⟨g, i * 13 + 1, none⟩ = some (.bool n.dir) := H.out.el i n hn 1 _ rfl
    have i1 : (0 : Int) ≤ (i : Int) := by omega
    have i2 : (i : Int) < (T.L.length : Int) := by omega
    have i3 : (T.L.length : Int) ≤ (cap : Int) := by omega
    have HS2 : Hid (listT T p = if n.dir = false then ([], 181) else (kidSts T.L n, 0)) := by show _ = _; rw [HS.out, hlk]
    clear HS hlk hi
    cases hd : n.dir with
    | false =>
      rw [hd] at e1
      have HS3 : Hid (listT T p = ([], 181)) := HS2.out.trans (if_pos hd)
      clear HS2 hd
      go_enter Tryz.func42, Tryz.ntmps42
      go_wp2_with fail
      refine hA.mono ?_
      rintro e w1 ⟨rfl, rfl⟩
      clear hA
      go_wp2
      go_ret2
      exact ⟨_, by rw [HS3.out]; rfl, by rw [HS3.out]; exact .inl ⟨rfl, none, 0, rfl⟩, Mod.refl _ _⟩
    | true =>
      rw [hd] at e1
      have HS3 : Hid (listT T p = (kstT T.L n.kids, 0)) := HS2.out.trans (if_neg (by rw [hd]; simp))
      clear HS2 hd
      obtain ⟨ka, kc, hvk, hc1, hc2⟩ := kids_form (H.out.kid i n hn)
      have e12 : w.cell? ⟨g, i * 13 + 12, none⟩ = some (.slice ka n.kids.length kc) := by rw [← hvk]; exact H.out.el i n hn 12 _ rfl
      have hkl := hno.kl
      clear hvk
      go_enter Tryz.func42, Tryz.ntmps42
      go_wp2_with fail
      refine hA.mono ?_
      rintro e w1 ⟨rfl, rfl⟩
      clear hA
      go_wp2
      go_loopw [7, 8] (fun vl k wr => ∃ (j : Nat) (acc : List St), j ≤ n.kids.length ∧ k = .int .i64 j ∧ acc.length ≤ n.kids.length ∧ Hid (OwnA wr w.heap.size 13 vl acc.length (flatR St.cells acc)) ∧ Hid (Mod (fun _ => False) w wr) ∧ Hid (kstT T.L (n.kids.take j) = acc)) (fun _ k _ => n.kids.length - (intOf k).toNat)
      case atStart => exact ⟨0, [], Nat.zero_le _, rfl, Nat.zero_le _, OwnA.nil _ _ _, Mod.refl _ _, rfl⟩
      case round =>
        obtain ⟨j, acc, hj, rfl, hal, HO, HM, HK⟩ := hrel
        have hNm : Hid (u7 = u7) := rfl
        have d0 := keepN HM.out c0
        have d1 := keepN HM.out e12
        by_cases hlt : j < n.kids.length
        · have q1 : decide ((j : Int) < (n.kids.length : Int)) = true := by simp; omega
          have q1' : decide (j < n.kids.length) = true := by simp; omega
          obtain ⟨kg, ko, rfl, _, e0⟩ := hc2 j hlt
          have f0 := keepN HM.out e0
          have j1 : (0 : Int) ≤ (j : Int) := by omega
          have j2 : (j : Int) < (n.kids.length : Int) := by omega
          have j3 : (n.kids.length : Int) ≤ (kc : Int) := by omega
          by_cases hz : n.kids[j] = 0
          · have q2 : ((n.kids[j] : Int) != 0) = false := by simp [hz]
            have HK2 : Hid (kstT T.L (n.kids.take (j + 1)) = acc) := (kst_zero hlt hz).trans HK.out
            clear hz
            generalize n.kids[j] = k at *
            go_wp2
            go_roundw
            case rel => exact ⟨j + 1, acc, hlt, by go_num, hal, HO.out, HM.out, HK2.out⟩
            case measure => simp [intOf]; omega
          · have q2 : ((n.kids[j] : Int) != 0) = true := by simp [hz]
            obtain ⟨d, hd, _, _⟩ := hwf.kid n hnm n.kids[j] (List.getElem_mem hlt) hz
            obtain ⟨q, hq, hqn, hql⟩ := look_get hd
            have hks := kst_some (L := T.L) hlt hz hd
            have HK2 : Hid (kstT T.L (n.kids.take (j + 1)) = acc ++ [statOf d]) := by show _ = _; rw [hks, HK.out]
            have hal2 : (acc ++ [statOf d]).length ≤ n.kids.length := by rw [← HK2.out]; exact kst_len
            clear hz hd hks
            generalize n.kids[j] = k at *
            have hA2 := fun U (hU : Mod (fun _ => False) w U) => at_any b g cap T vks k U (H.out.mod hU) hl
            rw [atI_some hq] at hA2
            have hSt := fun U => rstat_any d (vks q) U (hwf.ok d (List.mem_of_getElem? hqn))
            have hrow : ∀ U, Mod (fun _ => False) w U → U.rangeAt g (q * 13) (ndC (d, vks q)) := fun U hU => (H.out.mod hU).elem hqn
            have r1 : (0 : Int) ≤ (q : Int) := by omega
            have r2 : (q : Int) < (T.L.length : Int) := by omega
            have hdl := ndC_len (d, vks q)
            have A3 : Hid ((acc.length + 1) * 112 ≤ 140737488355328) := (show _ ≤ _ by omega)
            have A4 : Hid (acc.length + 1 ≤ 9223372036854775807) := (show _ ≤ _ by omega)
            clear hq
            go_upto_region 11 with (fail)
            refine wp_region_held_drew (S := fun w' => Hid (Mod (fun _ => False) w w')) (by kernel_rfl) (Lib.hid HM.out.drew) (fun hHeld => ?_)
            refine hT 0 rfl (fun _ _ => by go_simp; all_goals with_reducible rfl) ?_
            try simp only [gA, gB, gC, Act.put, sA, sB, sC]
            refine hT 1 rfl (fun _ _ => by go_simp; all_goals with_reducible rfl) ?_
            try simp only [gA, gB, gC, Act.put, sA, sB, sC]
            refine hT 2 rfl (fun _ _ => by go_simp; all_goals with_reducible rfl) ?_
            try simp only [gA, gB, gC, Act.put, sA, sB, sC]
            refine hT 3 rfl (fun _ _ => by go_simp; all_goals with_reducible rfl) ?_
            try simp only [gA, gB, gC, Act.put, sA, sB, sC]
            refine hT 4 rfl (fun wH hSw => by have cH := keepN hSw.out c0; clear hSw; go_simp; all_goals with_reducible rfl) ?_
            try simp only [gA, gB, gC, Act.put, sA, sB, sC]
            refine hT 5 rfl (fun _ _ => by go_simp; all_goals with_reducible rfl) ?_
            try simp only [gA, gB, gC, Act.put, sA, sB, sC]
            refine hT 6 rfl (fun _ _ => by go_simp; all_goals with_reducible rfl) ?_
            try simp only [gA, gB, gC, Act.put, sA, sB, sC]
            refine hT 7 rfl (fun _ _ => by go_simp; all_goals with_reducible rfl) ?_
            try simp only [gA, gB, gC, Act.put, sA, sB, sC]
            refine hT 8 rfl (fun _ _ => by go_simp; all_goals with_reducible rfl) ?_
            try simp only [gA, gB, gC, Act.put, sA, sB, sC]
            refine hT 9 rfl (fun wH hSw => by have cH := keepN hSw.out c0; clear hSw; go_simp; all_goals with_reducible rfl) ?_
            try simp only [gA, gB, gC, Act.put, sA, sB, sC]
            refine hT 10 rfl (fun _ _ => by go_simp; all_goals with_reducible rfl) ?_
            try simp only [gA, gB, gC, Act.put, sA, sB, sC]
            refine hT 11 rfl (fun _ _ => by go_simp; all_goals with_reducible rfl) ?_
            try simp only [gA, gB, gC, Act.put, sA, sB, sC]
            refine hT 12 rfl (fun _ _ => by go_simp; all_goals with_reducible rfl) ?_
            try simp only [gA, gB, gC, Act.put, sA, sB, sC]
            refine hT 13 rfl (fun wH hSw => by have cH := keepN hSw.out e12; clear hSw; go_simp; all_goals with_reducible rfl) ?_
            try simp only [gA, gB, gC, Act.put, sA, sB, sC]
            refine hT 14 rfl (fun _ _ => by go_simp; all_goals with_reducible rfl) ?_
            try simp only [gA, gB, gC, Act.put, sA, sB, sC]
            refine hT 15 rfl (fun _ _ => by go_simp; all_goals with_reducible rfl) ?_
            try simp only [gA, gB, gC, Act.put, sA, sB, sC]
            refine hT 16 rfl (fun wH hSw => by have cH := keepN hSw.out e0; clear hSw; go_simp; all_goals with_reducible rfl) ?_
            try simp only [gA, gB, gC, Act.put, sA, sB, sC]
            refine hR1 17 rfl fun K hK => ?_
            go_simp
            refine (hA2 _ hHeld.out).mono ?_
            rintro e w4 ⟨rfl, rfl⟩
            refine hK.out _ _ (Lib.hid (hHeld.out)) ?_; clear hK K hHeld; intro hHeld
            try simp only [gA, gB, gC, Act.put, sA, sB, sC]
            refine hT 18 rfl (fun _ _ => by go_simp; all_goals with_reducible rfl) ?_
            try simp only [gA, gB, gC, Act.put, sA, sB, sC]
            refine hTy 19 rfl (by kernel_rfl) (fun _ _ _ h => h) (by assumption) (yieldsIf_load_mid (by rfl) 83 (.tmp 66) rfl g (q * 13) rfl (ndC (d, vks q)) _ (fun wH hSw => hrow wH hSw.out) Tryz.underlying83 rfl (by kernel_rfl)) ?_
            try simp only [gA, gB, gC, Act.put, sA, sB, sC]
            refine hR1 20 rfl fun K hK => ?_
            go_simp
            refine (hSt _).mono ?_
            rintro e w4 ⟨rfl, m4⟩
            refine hK.out _ _ (Lib.hid (hHeld.out.trans m4)) ?_; clear hK K hHeld; intro hHeld
            try simp only [gA, gB, gC, Act.put, sA, sB, sC]
            have hb1 : (statOf d).cells.length = 13 := rfl
            have hb2 := bs_fold (statOf d)
            refine hR1 21 rfl fun K hK => ?_
            go_simp
            clear hb1 hb2
            have mA := hHeld.out.alloc (.cells (statOf d).cells.toArray 37)
            have HO2 : Hid (OwnA (w4.alloc (.cells (statOf d).cells.toArray 37)) w.heap.size 13 u7 acc.length (flatR St.cells acc)) := HO.out.mod (Mod.alloc (Mod.ofDrew m4) _) fun _ _ x => x
            have A2 := Lib.hid (src_st1 (statOf d) w4)
            have A5 : Hid (w.heap.size ≤ (w4.alloc (.cells (statOf d).cells.toArray 37)).heap.size) := mA.size
            refine hK.out _ _ (Lib.hid (mA)) ?_; clear hK K hHeld; intro hHeld
            try simp only [gA, gB, gC, Act.put, sA, sB, sC]
            refine hR1 22 rfl fun K hK => ?_
            refine Eq.mpr (if_pos ?hwant) ?_
            case hwant => rfl
            refine op_append (.tmp 48) (.tmp 69) _ _ rfl w.heap.size 37 (.agg #[.int .u16 0, .int .u32 0, .int .u8 0, .int .u32 0, .int .u64 0, .int .u32 0, .int .u32 0, .int .u32 0, .int .u64 0, .string { data := #[] }, .string { data := #[] }, .string { data := #[] }, .string { data := #[] }]) 13 112 Tryz.underlying69 info_stat rfl (by decide) u7 _ _ rfl HO2.out _ _ _ rfl A2.out A3.out A4.out A5.out ?_
            intro v' w5 hown' hgrow _
            have hO : ∀ k, some k = u7.ownBlock → w.heap.size ≤ k := fun k hk => (HO.out.lt k hk).1
            have m5 : Mod (fun _ => False) w w5 := hHeld.out.trans' hgrow fun k hk e => by have := hO k e; omega
            have hfl : flatR St.cells acc ++ (statOf d).cells = flatR St.cells (acc ++ [statOf d]) := by rw [flatR_append]; simp [flatR]
            have HO3 : Hid (OwnA w5 w.heap.size 13 v' (acc ++ [statOf d]).length (flatR St.cells (acc ++ [statOf d]))) := by show OwnA _ _ _ _ _ _; rw [List.length_append, ← hfl]; exact hown'
            clear hown' hgrow hfl
            refine hK.out _ _ (Lib.hid (m5)) ?_; clear hK K hHeld; intro hHeld
            try simp only [gA, gB, gC, Act.put, sA, sB, sC]
            refine hT 23 rfl (fun _ _ => by go_simp; all_goals with_reducible rfl) ?_
            try simp only [gA, gB, gC, Act.put, sA, sB, sC]
            refine wpAnyH_done (by kernel_rfl) ?_ _
            go_wp2
            go_roundw
            case rel => exact ⟨j + 1, acc ++ [statOf d], hlt, by go_num, hal2, HO3.out, hHeld.out, HK2.out⟩
            case measure => simp [intOf]; omega
        · obtain rfl : j = n.kids.length := by omega
          have q1 : decide ((n.kids.length : Int) < (n.kids.length : Int)) = false := by simp
          have q1' : decide (n.kids.length < n.kids.length) = false := by simp
          rw [List.take_length] at HK
          have HV : Hid (listT T p = (acc, 0)) := by show _ = _; rw [HS3.out, HK.out]
          go_wp2
          go_ret2
          exact ⟨u7, by rw [HV.out]; rfl, by rw [HV.out]; exact OwnA.recs (cs := St.cells) (sz := 13) (by decide) st_len HO.out, HM.out⟩
end Go.Proofs.YtkcnbbjmkkaolaaGreatDoor
namespace Go.Proofs.YtkcnbbjmkkaolaaGreatDoor
open Go.RowKit

theorem OwnA.setJ {w : World} {base size g n cap j : Nat} {xs : List Value} {u : Value} (h : OwnA w base size (.slice (some ⟨g, 0, none⟩) n cap) n xs) (hj : j < n * size) : OwnA (w.setCell ⟨g, j, none⟩ u) base size (.slice (some ⟨g, 0, none⟩) n cap) n (xs.set j u) := by
  refine ⟨by rw [List.length_set]; exact h.1, ?_⟩
  rcases h.2 with ⟨h2, _⟩ | ⟨g', cap', h1, h2, h3, h4, h5, h6, h7⟩
  · cases h2
  · injection h1 with e1 e2 e3
    injection e1 with e1
    injection e1 with e1
    subst e1 e3
    have hxl : xs.length = n * size := h.1
    have hnc : n * size ≤ cap * size := Nat.mul_le_mul_right _ h4
    refine .inr ⟨g, cap, rfl, h2, by rw [World.size_setCell]; exact h3, h4, fun i hi => ?_, fun i hi => by rw [World.frozen?_setCell]; exact h6 i hi, fun i v hi => ?_⟩
    · by_cases e : i = j
      · subst e
        rw [World.cell?_setCell_same' _ _ _ (h5 i hi)]
        rfl
      · rw [World.cell?_setCell_other (w := w) (a := ⟨g, j, none⟩) (b := ⟨g, i, none⟩) (v := u) (h := by intro x; injection x with _ x; exact e x.symm)]
        exact h5 i hi
    · rw [List.getElem?_set] at hi
      by_cases e : j = i
      · subst e
        rw [if_pos rfl, if_pos (by omega)] at hi
        injection hi with hi
        subst hi
        rw [World.cell?_setCell_same' _ _ _ (h5 j (by omega))]
      · rw [if_neg e] at hi
        rw [World.cell?_setCell_other (w := w) (a := ⟨g, j, none⟩) (b := ⟨g, i, none⟩) (v := u) (h := by intro x; injection x with _ x; exact e x)]
        exact h7 i v hi
theorem flatR_set {α : Type} {cs : α → List Value} {sz : Nat} (hl : ∀ a, (cs a).length = sz) {c : Nat} {u : Value} (hc : c < sz) : ∀ (l : List α) (i : Nat) (a b : α), l[i]? = some a → cs b = (cs a).set c u → flatR cs (l.set i b) = (flatR cs l).set (i * sz + c) u := by
  intro l
  induction l with
  | nil => intro i a b h; cases h
  | cons x l ih =>
    intro i a b h hb
    unfold flatR at *
    cases i with
    | zero =>
      simp at h
      subst h
      rw [List.set_cons_zero, List.flatMap_cons, List.flatMap_cons, hb, Nat.zero_mul, Nat.zero_add, List.set_append_left _ _ (by rw [hl]; exact hc)]
    | succ i =>
      rw [List.set_cons_succ, List.flatMap_cons, List.flatMap_cons, ih i a b h hb, List.set_append_right _ _ (by rw [hl, Nat.add_mul]; omega), hl]
      congr 2
      rw [Nat.add_mul]
      omega
def rowP (L : List Nd) (vks : Nat → Value) : List (Nd × Value) := L.mapIdx fun i n => (n, vks i)
theorem rowP_get {L : List Nd} {vks : Nat → Value} {i : Nat} {n : Nd} (h : L[i]? = some n) : (rowP L vks)[i]? = some (n, vks i) := by
  unfold rowP
  rw [List.getElem?_mapIdx, h]; rfl
theorem rowP_len {L : List Nd} {vks : Nat → Value} : (rowP L vks).length = L.length := List.length_mapIdx
theorem rowP_set {L : List Nd} {vks : Nat → Value} {i : Nat} {n : Nd} : rowP (L.set i n) vks = (rowP L vks).set i (n, vks i) := by
  apply List.ext_getElem?
  intro j
  unfold rowP
  rw [List.getElem?_mapIdx, List.getElem?_set, List.getElem?_set, List.getElem?_mapIdx, List.length_mapIdx]
  by_cases h : i = j
  · subst h
    rw [if_pos rfl, if_pos rfl]
    by_cases hi : i < L.length
    · rw [if_pos hi, if_pos hi]; rfl
    · rw [if_neg hi, if_neg hi]; rfl
  · rw [if_neg h, if_neg h]
/-- the tree at b, its own: its row at g, its files' kids in rows vks, all within F -/
structure RTreeP (w : World) (F : Nat → Prop) (b : Nat) (T : Tr) (g cap : Nat) (vks : Nat → Value) : Prop where
  obj : w.heap[b]? = some (.cells #[.slice (some ⟨g, 0, none⟩) T.L.length cap, .int .u64 T.last] 86 (0, 0))
  row : OwnA w 0 13 (.slice (some ⟨g, 0, none⟩) T.L.length cap) T.L.length (flatR ndC (rowP T.L vks))
  kid : ∀ i n, T.L[i]? = some n → OwnA w 0 1 (vks i) n.kids.length (kidsV n.kids)
  fb : F b
  fg : F g
  ne : g ≠ b
  fk : ∀ i, i < T.L.length → ∀ k, some k = (vks i).ownBlock → F k ∧ k ≠ b ∧ k ≠ g
  dj : ∀ i j, i < T.L.length → j < T.L.length → i ≠ j → ∀ k, some k = (vks i).ownBlock → some k ≠ (vks j).ownBlock
  lt : ∀ k, F k → k < w.heap.size
def RTree (w : World) (F : Nat → Prop) (b : Nat) (T : Tr) : Prop := ∃ g cap vks, RTreeP w F b T g cap vks
theorem own_cap {w : World} {base size g n cap : Nat} {xs : List Value} (h : OwnA w base size (.slice (some ⟨g, 0, none⟩) n cap) n xs) : n ≤ cap ∧ g < w.heap.size ∧ (∀ j u, xs[j]? = some u → w.cell? ⟨g, j, none⟩ = some u) ∧ (∀ j, j < cap * size → w.frozen? ⟨g, j, none⟩ = false) := by
  rcases h.2 with ⟨h2, _⟩ | ⟨g', cap', h1, h2, h3, h4, h5, h6, h7⟩
  · cases h2
  · injection h1 with e1 e2 e3
    injection e1 with e1
    injection e1 with e1
    subst e1 e3
    exact ⟨h4, h3, h7, h6⟩
theorem RTreeP.rv {w : World} {F : Nat → Prop} {b : Nat} {T : Tr} {g cap : Nat} {vks : Nat → Value} (h : RTreeP w F b T g cap vks) : RV w b g cap T vks := by
  obtain ⟨h1, _, h3, _⟩ := own_cap h.row
  refine ⟨(cell_of h.obj 0).trans rfl, (cell_of h.obj 1).trans rfl, h1, fun i n hi c u hu => ?_, fun i n hi => (h.kid i n hi).slAt.imp fun _ _ => trivial⟩
  refine h3 _ _ ?_
  have hc : c < 13 := by rw [← ndC_len (n, vks i)]; exact (List.getElem?_eq_some_iff.1 hu).1
  rw [flatR_get (cs := ndC) (sz := 13) ndC_len (rowP T.L vks) i (n, vks i) (rowP_get hi) c hc]
  exact hu
theorem RTreeP.free {w : World} {F : Nat → Prop} {b : Nat} {T : Tr} {g cap : Nat} {vks : Nat → Value} (h : RTreeP w F b T g cap vks) {i c : Nat} (hi : i < T.L.length) (hc : c < 13) : w.frozen? ⟨g, i * 13 + c, none⟩ = false := by
  obtain ⟨h1, _, _, h4⟩ := own_cap h.row
  exact h4 _ (by have : (i + 1) * 13 ≤ cap * 13 := Nat.mul_le_mul_right _ (by omega); omega)
theorem RTreeP.mod {w w' : World} {F S : Nat → Prop} {b : Nat} {T : Tr} {g cap : Nat} {vks : Nat → Value} (h : RTreeP w F b T g cap vks) (hm : Mod S w w') (hS : ∀ k, S k → ¬ F k) : RTreeP w' F b T g cap vks :=
  ⟨(hm.block b (lt_of h.obj) (fun x => hS b x h.fb)).trans h.obj, h.row.modB hm (fun k hk x => hS k x (by have e : k = g := (by simpa [Value.ownBlock] using hk); rw [e]; exact h.fg)),
   fun i n hi => (h.kid i n hi).modB hm fun k hk x => hS k x (h.fk i (List.getElem?_eq_some_iff.1 hi).1 k hk).1, h.fb, h.fg, h.ne, h.fk, h.dj, fun k hk => Nat.lt_of_lt_of_le (h.lt k hk) hm.size⟩
theorem RTree.mod {w w' : World} {F S : Nat → Prop} {b : Nat} {T : Tr} (h : RTree w F b T) (hm : Mod S w w') (hS : ∀ k, S k → ¬ F k) : RTree w' F b T := by
  obtain ⟨g, cap, vks, h⟩ := h
  exact ⟨g, cap, vks, h.mod hm hS⟩
/-- a cell of a file is set -/
theorem RTreeP.set {w : World} {F : Nat → Prop} {b : Nat} {T : Tr} {g cap : Nat} {vks : Nat → Value} (h : RTreeP w F b T g cap vks) {i : Nat} {n n' : Nd} (hi : T.L[i]? = some n) (hk : n'.kids = n.kids) (c : Nat) (u : Value) (hc : c < 13) (hs : ndC (n', vks i) = (ndC (n, vks i)).set c u) :
    RTreeP (w.setCell ⟨g, i * 13 + c, none⟩ u) F b { T with L := T.L.set i n' } g cap vks ∧ Mod (· = g) w (w.setCell ⟨g, i * 13 + c, none⟩ u) := by
  have hil : i < T.L.length := (List.getElem?_eq_some_iff.1 hi).1
  have hm : Mod (· = g) w (w.setCell ⟨g, i * 13 + c, none⟩ u) := Mod.set1 w g _ u
  have hln : (T.L.set i n').length = T.L.length := List.length_set
  refine ⟨⟨?_, ?_, fun j m hj => ?_, h.fb, h.fg, h.ne, ?_, ?_, fun k hk => Nat.lt_of_lt_of_le (h.lt k hk) hm.size⟩, hm⟩
  · show (w.setCell _ _).heap[b]? = some (.cells #[.slice (some ⟨g, 0, none⟩) (T.L.set i n').length cap, _] _ _)
    rw [hln]
    exact (hm.block b (lt_of h.obj) (fun e => h.ne e.symm)).trans h.obj
  · show OwnA _ 0 13 (.slice (some ⟨g, 0, none⟩) (T.L.set i n').length cap) (T.L.set i n').length (flatR ndC (rowP (T.L.set i n') vks))
    rw [hln, rowP_set, flatR_set (cs := ndC) (sz := 13) ndC_len hc (rowP T.L vks) i (n, vks i) (n', vks i) (rowP_get hi) hs]
    exact h.row.setJ (by have : (i + 1) * 13 ≤ T.L.length * 13 := Nat.mul_le_mul_right _ (by omega); omega)
  · have hj' : (T.L.set i n')[j]? = some m := hj
    rw [List.getElem?_set] at hj'
    by_cases e : i = j
    · subst e
      rw [if_pos rfl, if_pos hil] at hj'
      injection hj' with hj'
      subst hj'
      rw [hk]
      exact (h.kid i n hi).modB hm fun k hk e => (h.fk i hil k hk).2.2 e
    · rw [if_neg e] at hj'
      exact (h.kid j m hj').modB hm fun k hk e => (h.fk j (List.getElem?_eq_some_iff.1 hj').1 k hk).2.2 e
  · intro j hj
    exact h.fk j (by rw [← hln]; exact hj)
  · intro j q hj hq
    exact h.dj j q (by rw [← hln]; exact hj) (by rw [← hln]; exact hq)
theorem get_set {L : List Nd} {i : Nat} {n : Nd} (h : i < L.length) : (L.set i n)[i]? = some n := by rw [List.getElem?_set, if_pos rfl, if_pos h]
set_option maxHeartbeats 1000000 in
set_option maxRecDepth 100000 in
theorem rtouch_any (F : Nat → Prop) (b g cap : Nat) (T : Tr) (vks : Nat → Value) (p i : Nat) (n : Nd) (who : ByteArray) (now : Nat) (w : World) (h : RTreeP w F b T g cap vks) (hl : T.L.length ≤ 1024) (hp : idxP T.L p = some i) (hn : T.L[i]? = some n) (hv : n.ver < 4294967296) :
    Calls Tryz.prog 103 #[.pointer (some ⟨b, 0, none⟩), .int .u64 p, .string who, .int .u32 now] w fun e w' => e = .returned (.tuple #[]) ∧ RTreeP w' F b { T with L := T.L.set i (n.touch who now) } g cap vks ∧ Mod (· = g) w w' := by
  have hA := at_any b g cap T vks p w h.rv hl
  rw [atI_some hp] at hA
  have hil : i < T.L.length := (List.getElem?_eq_some_iff.1 hn).1
  have hcap := (own_cap h.row).1
  obtain ⟨v1, hv1⟩ : ∃ v1, (n.ver + 1) % 4294967296 = v1 := ⟨_, rfl⟩
  have hwr : IntKind.u32.wrap ((n.ver : Int) + 1) = (v1 : Int) := by rw [IntKind.wrap_u32]; omega
  obtain ⟨h1, m1⟩ := h.set (n' := { n with ver := v1 }) hn rfl 2 (.int .u32 v1) (by decide) rfl
  obtain ⟨W1, hW1⟩ : ∃ W1, w.setCell ⟨g, i * 13 + 2, none⟩ (.int .u32 v1) = W1 := ⟨_, rfl⟩
  rw [hW1] at h1 m1
  obtain ⟨h2, m2⟩ := h1.set (i := i) (n' := { n with ver := v1, mtime := now }) (get_set hil) rfl 8 (.int .u32 now) (by decide) rfl
  obtain ⟨W2, hW2⟩ : ∃ W2, W1.setCell ⟨g, i * 13 + 8, none⟩ (.int .u32 now) = W2 := ⟨_, rfl⟩
  rw [hW2] at h2 m2
  obtain ⟨h3, m3⟩ := h2.set (i := i) (n' := n.touch who now) (get_set (by rw [List.length_set]; exact hil)) rfl 6 (.string who) (by decide) (by unfold Nd.touch; rw [hv1]; rfl)
  obtain ⟨W3, hW3⟩ : ∃ W3, W2.setCell ⟨g, i * 13 + 6, none⟩ (.string who) = W3 := ⟨_, rfl⟩
  rw [hW3] at h3 m3
  simp only [List.set_set] at h3
  have c0 := h.rv.c0
  have d0 : W1.cell? ⟨b, 0, none⟩ = some (.slice (some ⟨g, 0, none⟩) T.L.length cap) := by have := h1.rv.c0; simp only [List.length_set] at this; exact this
  have f0 : W2.cell? ⟨b, 0, none⟩ = some (.slice (some ⟨g, 0, none⟩) T.L.length cap) := by have := h2.rv.c0; simp only [List.length_set] at this; exact this
  have e2 : w.cell? ⟨g, i * 13 + 2, none⟩ = some (.int .u32 n.ver) := h.rv.el i n hn 2 _ rfl
  have z2 : w.frozen? ⟨g, i * 13 + 2, none⟩ = false := h.free hil (by decide)
  have e8 : W1.cell? ⟨g, i * 13 + 8, none⟩ = some (.int .u32 n.mtime) := h1.rv.el i _ (get_set hil) 8 _ rfl
  have z8 : W1.frozen? ⟨g, i * 13 + 8, none⟩ = false := h1.free (by show i < (T.L.set i _).length; rw [List.length_set]; exact hil) (by decide)
  have e6 : W2.cell? ⟨g, i * 13 + 6, none⟩ = some (.string n.muid) := h2.rv.el i _ (get_set (by rw [List.length_set]; exact hil)) 6 _ rfl
  have z6 : W2.frozen? ⟨g, i * 13 + 6, none⟩ = false := h2.free (by show i < ((T.L.set i _).set i _).length; rw [List.length_set, List.length_set]; exact hil) (by decide)
  have i1 : (0 : Int) ≤ (i : Int) := by omega
  have i2 : (i : Int) < (T.L.length : Int) := by omega
  have i3 : (T.L.length : Int) ≤ (cap : Int) := by omega
  have HR := Lib.hid h3
  have HM := Lib.hid ((m1.trans m2).trans m3)
  clear h h1 h2 h3 m1 m2 m3 hn hp hcap hl hil hv hv1
  go_enter Tryz.func103, Tryz.ntmps103
  go_wp2_with fail
  refine hA.mono ?_
  rintro e w1 ⟨rfl, rfl⟩
  clear hA
  go_wp2
  go_end0
  exact ⟨rfl, HR.out, HM.out⟩
end Go.Proofs.YtkcnbbjmkkaolaaGreatDoor
