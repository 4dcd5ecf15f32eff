/- The document's tree: Remove.
   The document's tree: New, All.
   The document's tree: All.
   Two stats, alike or not.
   The package's tree: what is asked for, or what is there.
   The package's tree: who may be.
   The package's tree: a node; is it a directory, who may.
   The package's tree: a node told, a node touched.
   The package's tree: bytes, cut, or with noughts behind.
   The package's tree: the first of the questions that fails.
   Maps that a call makes, as plain functions of their keys.
   Maps that a call owns, with their size: store, delete, len, range. -/
import Derived.Test.YtkcnbbjmkkaolaaGreatDoorQG05
import Derived.Test.YtkcnbbjmkkaolaaGreatDoorQG00
import Derived.Test.YtkcnbbjmkkaolaaGreatDoorQG02
import Derived.Test.YtkcnbbjmkkaolaaGreatDoorShelf
import Derived.Maps.OwnSet
import Derived.Maps.RangeWalk
set_option linter.unusedVariables false
set_option linter.unusedSimpArgs false
namespace Go.Proofs.YtkcnbbjmkkaolaaGreatDoor
open Go.RowKit

theorem look_filter {L : List Nd} {p q : Nat} (h : q ≠ p) : look (L.filter fun n => decide (n.path ≠ p)) q = look L q := by
  unfold look
  rw [List.find?_filter]
  congr 1
  funext n
  by_cases hn : n.path = q
  · have : n.path ≠ p := fun e => h (hn.symm.trans e)
    simp [hn, h]
  · simp [hn]
theorem cnt_pos {n : Nd} {k : Nat} (h : k ∈ n.kids) (h0 : k ≠ 0) : 0 < cntOf n := by
  unfold cntOf
  rw [List.length_pos_iff_exists_mem]
  exact ⟨k, List.mem_filter.2 ⟨h, by simpa using h0⟩⟩
theorem row_one {w : World} {b g cap : Nat} {T : Tr} {vks : Nat → Value} (h : RV w b g cap T vks) : ∀ u ∈ flatR ndC (rowP T.L vks), u.oneCell' = true := by
  intro u hu
  unfold flatR at hu
  rw [List.mem_flatMap] at hu
  obtain ⟨a, ha, hu⟩ := hu
  obtain ⟨j, hj⟩ := List.mem_iff_getElem?.1 ha
  unfold rowP at hj
  rw [List.getElem?_mapIdx] at hj
  cases hn : T.L[j]? with
  | none => rw [hn] at hj; cases hj
  | some n =>
    rw [hn] at hj
    injection hj with hj
    subst hj
    exact nd_one (h.kid j n hn) u hu
theorem row_len {L : List Nd} {vks : Nat → Value} : (flatR ndC (rowP L vks)).length = L.length * 13 := by rw [flatR_length ndC_len, rowP_len]
/-- a part of the row, to be appended -/
theorem src_part {w : World} {F : Nat → Prop} {b g cap : Nat} {T : Tr} {vks : Nat → Value} (h : RTreeP w F b T g cap vks) (s m c : Nat) (hs : s + m ≤ T.L.length) :
    Src Tryz.prog 13 84 (.slice (some ⟨g, s * 13, none⟩) m c) m (((flatR ndC (rowP T.L vks)).drop (s * 13)).take (m * 13)) w := by
  have hc := (own_cap h.row).2.2.1
  have hlr : (flatR ndC (rowP T.L vks)).length = T.L.length * 13 := row_len
  have hmm : s * 13 + m * 13 ≤ T.L.length * 13 := by rw [← Nat.add_mul]; exact Nat.mul_le_mul_right _ hs
  refine Src.ofSlice _ Tryz.underlying84 _ _ _ _ ?_ (fun j u hj => ?_) (fun u hu => row_one h.rv u (List.mem_of_mem_drop (List.mem_of_mem_take hu)))
  · rw [List.length_take, List.length_drop, hlr]; omega
  · rw [Addr.add_mid]
    apply hc
    rw [List.getElem?_take] at hj
    split at hj
    · rw [List.getElem?_drop] at hj; exact hj
    · cases hj
def RmPost (F : Nat → Prop) (b : Nat) (R : Tr × Int) (w : World) (e : Ending) (w' : World) : Prop :=
  e = .returned (.int .i64 R.2) ∧ ∃ F' g' cap' vks', RTreeP w' F' b R.1 g' cap' vks' ∧ Mod F w w' ∧ GrowsF w F F'
theorem RmPost.err {F : Nat → Prop} {b g cap : Nat} {vks : Nat → Value} {R : Tr × Int} {T : Tr} {z : Int} {w w' : World} (hR : R = (T, z)) (h : RTreeP w F b T g cap vks) (m : Mod (fun _ => False) w w') :
    RmPost F b R w (.returned (.int .i64 z)) w' := by
  rw [hR]
  exact ⟨rfl, F, g, cap, vks, h.mod m (fun _ x => x.elim), m.mono (fun _ _ x => x.elim), GrowsF.refl _ _⟩
set_option maxHeartbeats 16000000 in
set_option maxRecDepth 100000 in
theorem rRemove_any (F : Nat → Prop) (b g cap : Nat) (T : Tr) (vks : Nat → Value) (p : Nat) (who : ByteArray) (now : Nat) (w : World) (h : RTreeP w F b T g cap vks) (hwf : WF T) :
    Calls Tryz.prog 45 #[.pointer (some ⟨b, 0, none⟩), .int .u64 p, .string who, .int .u32 now] w (RmPost F b (removeT T p who now) w) := by
  have hl := hwf.len
  have hR := h.rv
  have hA := at_any b g cap T vks p w hR hl
  have HS : Hid (removeT T p who now = match look T.L p with | none => (T, 180) | some n => if removeE T n who ≠ 0 then (T, removeE T n who) else ({ T with L := updN (T.L.filter fun n => decide (n.path ≠ p)) n.parent fun d => Nd.touch { d with kids := d.kids.map fun k => if k = p then 0 else k } who now }, 0)) := rfl
  have c0 := hR.c0
  have hcap := hR.cap
  have H := Lib.hid h
  have HR := Lib.hid hR
  clear h hR
  cases hlk : look T.L p with
  | none =>
    rw [atI_none hlk] at hA
    have HV : Hid (removeT T p who now = (T, 180)) := by show _ = _; rw [HS.out, hlk]
    clear HS hlk
    go_enter Tryz.func45, Tryz.ntmps45
    go_wp2_with fail
    refine hA.mono ?_
    rintro e w1 ⟨rfl, rfl⟩
    clear hA
    go_wp2
    go_ret
    unfold RmPost
    rw [HV.out]
    exact ⟨rfl, F, g, cap, vks, H.out.mod (Mod.refl (fun _ => False) w) (fun _ x => x.elim), ((Mod.refl (fun _ => False) w)).mono (fun _ _ x => x.elim), GrowsF.refl _ _⟩
  | some n =>
    obtain ⟨i, hi, hn, hil⟩ := look_get hlk
    rw [atI_some hi] at hA
    have t1 : decide ((i : Int) < 0) = false := by simp
    have HS2 : Hid (removeT T p who now = if removeE T n who ≠ 0 then (T, removeE T n who) else ({ T with L := updN (T.L.filter fun n => decide (n.path ≠ p)) n.parent fun d => Nd.touch { d with kids := d.kids.map fun k => if k = p then 0 else k } who now }, 0)) := by show _ = _; rw [HS.out, hlk]
    have hpp : n.path = p := by
      obtain ⟨n2, h1, h2, _⟩ := idx_some hi
      rw [hn] at h1; injection h1 with h1; rw [h1]; exact h2
    have HE1 : Hid (removeE T n who = if p = 1 then 187 else if mayB (parOf T.L n) who 2 = false then 182 else if 0 < cntOf n then 185 else 0) := by show _ = _; unfold removeE; rw [hpp]
    have hnm := List.mem_of_getElem? hn
    have hno := hwf.ok n hnm
    have i1 : (0 : Int) ≤ (i : Int) := by omega
    have i2 : (i : Int) < (T.L.length : Int) := by omega
    have i3 : (T.L.length : Int) ≤ (cap : Int) := by omega
    have hln := ndC_len (n, vks i)
    clear HS
    by_cases hp1 : p = 1
    · have he : removeE T n who = 187 := HE1.out.trans (if_pos hp1)
      have HV : Hid (removeT T p who now = (T, 187)) := by show _ = _; rw [HS2.out, he]; rfl
      have q1 : ((p : Int) == 1) = true := by simp; omega
      clear HS2 HE1 he hp1
      go_enter Tryz.func45, Tryz.ntmps45
      go_wp2_with fail
      refine hA.mono ?_
      rintro e w1 ⟨rfl, rfl⟩
      clear hA
      go_wp2
      go_ret
      unfold RmPost
      rw [HV.out]
      exact ⟨rfl, F, g, cap, vks, H.out.mod (Mod.refl (fun _ => False) w) (fun _ x => x.elim), ((Mod.refl (fun _ => False) w)).mono (fun _ _ x => x.elim), GrowsF.refl _ _⟩
    have q1 : ((p : Int) == 1) = false := by simp; omega
    obtain ⟨d, hd⟩ := hwf.par n hnm
    have hpd : parOf T.L n = d := by unfold parOf; rw [hd]; rfl
    have HE2 := Lib.hid (HE1.out.trans (if_neg hp1))
    rw [hpd] at HE2
    obtain ⟨j, hj, hjn, hjl⟩ := look_get hd
    have hdo := hwf.ok d (List.mem_of_getElem? hjn)
    have e9 : w.cell? ⟨g, i * 13 + 9, none⟩ = some (.int .u64 n.parent) := HR.out.el i n hn 9 _ rfl
    have hA2 := fun U (hU : Mod (fun _ => False) w U) => at_any b g cap T vks n.parent U (HR.out.mod hU) hl
    rw [atI_some hj] at hA2
    have hMp := fun U => rmay_any d (vks j) who 2 U (by decide) hdo.perm
    have hrowd : ∀ U, Mod (fun _ => False) w U → U.rangeAt g (j * 13) (ndC (d, vks j)) := fun U hU => (HR.out.mod hU).elem hjn
    have hdl := ndC_len (d, vks j)
    have j1 : (0 : Int) ≤ (j : Int) := by omega
    have j2 : (j : Int) < (T.L.length : Int) := by omega
    clear HE1 hp1
    go_enter Tryz.func45, Tryz.ntmps45
    go_wp2_with fail
    refine hA.mono ?_
    rintro e w1 ⟨rfl, rfl⟩
    clear hA
    go_upto_region 7 with (fail)
    refine wp_region_held_drew (S := fun w' => Hid (Mod (fun _ => False) w w')) (by kernel_rfl) (Lib.hid (Mod.refl (fun _ => False) w).drew) (fun hHeld => ?_)
    refine hT 0 rfl (fun _ _ => by go_simp; all_goals with_reducible rfl) ?_
    try simp only [gA, gB, gC, Act.put, sA, sB, sC]
    refine hT 1 rfl (fun _ _ => by go_simp; all_goals with_reducible rfl) ?_
    try simp only [gA, gB, gC, Act.put, sA, sB, sC]
    refine hT 2 rfl (fun _ _ => by go_simp; all_goals with_reducible rfl) ?_
    try simp only [gA, gB, gC, Act.put, sA, sB, sC]
    refine hT 3 rfl (fun wH hSw => by have cH := keepN hSw.out c0; clear hSw; go_simp; all_goals with_reducible rfl) ?_
    try simp only [gA, gB, gC, Act.put, sA, sB, sC]
    refine hT 4 rfl (fun _ _ => by go_simp; all_goals with_reducible rfl) ?_
    try simp only [gA, gB, gC, Act.put, sA, sB, sC]
    refine hT 5 rfl (fun _ _ => by go_simp; all_goals with_reducible rfl) ?_
    try simp only [gA, gB, gC, Act.put, sA, sB, sC]
    refine hT 9 rfl (fun _ _ => by go_simp; all_goals with_reducible rfl) ?_
    try simp only [gA, gB, gC, Act.put, sA, sB, sC]
    refine hR1 6 rfl fun K hK => ?_
    go_simp
    refine (hA2 _ hHeld.out).mono ?_
    rintro e w4 ⟨rfl, rfl⟩
    refine hK.out _ _ (Lib.hid (hHeld.out)) ?_; clear hK K hHeld; intro hHeld
    try simp only [gA, gB, gC, Act.put, sA, sB, sC]
    refine hT 7 rfl (fun _ _ => by go_simp; all_goals with_reducible rfl) ?_
    try simp only [gA, gB, gC, Act.put, sA, sB, sC]
    refine hTy 8 rfl (by kernel_rfl) (fun _ _ _ h => h) (by assumption) (yieldsIf_load_mid (by rfl) 83 (.tmp 36) rfl g (j * 13) rfl (ndC (d, vks j)) _ (fun wH hSw => hrowd wH hSw.out) Tryz.underlying83 rfl (by kernel_rfl)) ?_
    try simp only [gA, gB, gC, Act.put, sA, sB, sC]
    refine hR1 10 rfl fun K hK => ?_
    go_simp
    refine (hMp _).mono ?_
    rintro e w5 ⟨rfl, m5⟩
    refine hK.out _ _ (Lib.hid (hHeld.out.trans m5)) ?_; clear hK K hHeld; intro hHeld
    try simp only [gA, gB, gC, Act.put, sA, sB, sC]
    refine hT 11 rfl (fun _ _ => by go_simp; all_goals with_reducible rfl) ?_
    try simp only [gA, gB, gC, Act.put, sA, sB, sC]
    refine wpAnyH_done (by kernel_rfl) ?_ _
    have M5 : Hid (Mod (fun _ => False) w w5) := hHeld.out
    clear hHeld m5 hA2 hMp hrowd
    cases hmy : mayB d who 2 with
    | false =>
      have he : removeE T n who = 182 := HE2.out.trans (if_pos hmy)
      have HV : Hid (removeT T p who now = (T, 182)) := by show _ = _; rw [HS2.out, he]; rfl
      clear HS2 HE2 he
      go_wp2
      go_ret
      unfold RmPost
      rw [HV.out]
      exact ⟨rfl, F, g, cap, vks, H.out.mod M5.out (fun _ x => x.elim), (M5.out).mono (fun _ _ x => x.elim), GrowsF.refl _ _⟩
    | true =>
    have HE3 := Lib.hid (HE2.out.trans (if_neg (by rw [hmy]; simp)))
    clear HE2 hmy
    have hCt := rcount_any n (vks i) _ w5 (HR.out.mod M5.out |>.kid i n hn) (by have := hno.kl; omega)
    have hre := (HR.out.mod M5.out).elem hn
    have c05 := keepN M5.out c0
    go_wp2_with (refine wpList_load_mid rfl 83 (.tmp 46) rfl g (i * 13) rfl (ndC (n, vks i)) _ hre Tryz.underlying83 rfl (by kernel_rfl) ?_)
    refine hCt.mono ?_
    rintro e w6 ⟨rfl, m6⟩
    have M6 : Hid (Mod (fun _ => False) w w6) := M5.out.trans m6
    clear hCt hre c05 m6 M5
    by_cases hct : 0 < cntOf n
    · have q2 : decide ((0 : Int) < (cntOf n : Int)) = true := by simp; omega
      have q2' : decide (0 < cntOf n) = true := by simp; omega
      have he : removeE T n who = 185 := HE3.out.trans (if_pos hct)
      have HV : Hid (removeT T p who now = (T, 185)) := by show _ = _; rw [HS2.out, he]; rfl
      clear HS2 HE3 he
      go_wp2
      go_ret
      unfold RmPost
      rw [HV.out]
      exact ⟨rfl, F, g, cap, vks, H.out.mod M6.out (fun _ x => x.elim), (M6.out).mono (fun _ _ x => x.elim), GrowsF.refl _ _⟩
    have q2 : decide ((0 : Int) < (cntOf n : Int)) = false := by simp; omega
    have q2' : decide (0 < cntOf n) = false := by simp; omega
    have he : removeE T n who = 0 := HE3.out.trans (if_neg hct)
    have HS3 : Hid (removeT T p who now = ({ T with L := updN (T.L.filter fun n => decide (n.path ≠ p)) n.parent fun d => Nd.touch { d with kids := d.kids.map fun k => if k = p then 0 else k } who now }, 0)) := by show _ = _; rw [HS2.out, he]; rfl
    clear HS2 HE3 he
    have hW6 := H.out.mod M6.out (fun _ x => x.elim)
    have c06 := hW6.rv.c0
    have S1 := src_part hW6 0 i cap (by omega)
    rw [Nat.zero_mul] at S1
    have A1 : Hid ((0 + i) * 144 ≤ 140737488355328) := (show _ ≤ _ by omega)
    have A2 : Hid (0 + i ≤ 9223372036854775807) := (show _ ≤ _ by omega)
    have A3 : Hid (w.heap.size ≤ w6.heap.size) := M6.out.size
    have S1 := Lib.hid S1
    have HW6 := Lib.hid hW6
    clear hW6
    have k1 : ((i : Int) + 1) ≤ (T.L.length : Int) := by omega
    go_upto_region 13 with (refine wpl_append rfl (.tmp 50) (.tmp 56) _ _ rfl w.heap.size 83 (.agg #[.int .u64 0, .bool false, .int .u32 0, .int .u32 0, .string { data := #[] }, .string { data := #[] }, .string { data := #[] }, .int .u32 0, .int .u32 0, .int .u64 0, .string { data := #[] }, .string { data := #[] }, .slice none 0 0]) 13 144 Tryz.underlying84 info_nd rfl (by decide) (.slice none 0 0) 0 [] rfl (OwnA.nil _ _ _) (.slice (some ⟨g, 0, none⟩) i cap) i _ rfl S1.out A1.out A2.out A3.out ?_; intro v1 w7 ho1 hg1)
    have M7 : Hid (Mod (fun _ => False) w w7) := M6.out.trans (hg1.mono fun k _ e => by simp [Value.ownBlock] at e)
    have ho1 := Lib.hid ho1
    have hW7 := H.out.mod M7.out (fun _ x => x.elim)
    have c07 := hW7.rv.c0
    obtain ⟨m2, hm2⟩ : ∃ m2, T.L.length - (i + 1) = m2 := ⟨_, rfl⟩
    have S2 := Lib.hid (src_part hW7 (i + 1) m2 (cap - (i + 1)) (by omega))
    have hSb : Hid (Src Tryz.prog 13 84 (.slice (some ⟨g, (i + 1) * 13, none⟩) (T.L.length - (i + 1)) (cap - (i + 1))) m2 (((flatR ndC (rowP T.L vks)).drop ((i + 1) * 13)).take (m2 * 13)) w7) := by rw [hm2]; exact S2.out
    have hSa : Hid (cap = i + 1 → Src Tryz.prog 13 84 (.slice (some ⟨g, 0, none⟩) (T.L.length - (i + 1)) 0) m2 (((flatR ndC (rowP T.L vks)).drop ((i + 1) * 13)).take (m2 * 13)) w7) := by
      intro hc
      have h0 : m2 = 0 := by omega
      rw [hm2, h0]
      have := src_part hW7 0 0 0 (by omega)
      simpa using this
    have B1 : Hid ((0 + i + m2) * 144 ≤ 140737488355328) := (show _ ≤ _ by omega)
    have B2 : Hid (0 + i + m2 ≤ 9223372036854775807) := (show _ ≤ _ by omega)
    have B3 : Hid (w.heap.size ≤ w7.heap.size) := M7.out.size
    have HM2 := Lib.hid hm2
    clear hW7 hg1 S1 A1 A2 A3 c06 HW6 hm2
    have hfl : [] ++ List.take (i * 13) (List.drop 0 (flatR ndC (rowP T.L vks))) ++ List.take (m2 * 13) (List.drop ((i + 1) * 13) (flatR ndC (rowP T.L vks))) = flatR ndC (rowP (T.L.eraseIdx i) (skipV i vks)) := by
      have hm2 := HM2.out
      rw [rowP_erase, flatR_append, flatR_take ndC_len, flatR_drop ndC_len, List.drop_zero, List.nil_append]
      congr 1
      apply List.take_of_length_le
      rw [List.length_drop, row_len]
      have h1 : T.L.length * 13 = (i + 1) * 13 + m2 * 13 := by rw [← Nat.add_mul]; congr 1; omega
      omega
    have HFL := Lib.hid hfl
    clear hfl
    have hnp : n.parent ≠ p := by
      intro e
      rw [e, hlk] at hd
      injection hd with hd
      have h1 := hwf.one n hnm (by rw [hpp]; intro e1; rw [e1] at q1; cases q1) n (by rw [e]; exact hlk)
      have h2 : n.path ∈ n.kids := List.count_pos_iff.1 (by omega)
      exact hct (cnt_pos h2 (by have := (hwf.lo n hnm).1; omega))
    have hone := hwf.one n hnm (by rw [hpp]; intro e1; rw [e1] at q1; cases q1) d hd
    have hdk : 0 < d.kids.length := by have := List.count_le_length (a := n.path) (l := d.kids); omega
    have hij : i ≠ j := by
      intro e
      rw [← e, hn] at hjn
      injection hjn with hjn
      apply hnp
      obtain ⟨d2, h1, h2, _⟩ := idx_some hj
      rw [← e, hn] at h1
      injection h1 with h1
      rw [← h2, ← h1]; exact hpp
    have hmm : 0 + i + m2 + 1 = T.L.length := by have := HM2.out; omega
    obtain ⟨mq, hmq⟩ : ∃ mq, 0 + i + m2 = mq + 1 := ⟨0 + i + m2 - 1, by omega⟩
    have hMq := Lib.hid hmq
    have hMm := Lib.hid hmm
    have Hnp := Lib.hid hnp
    have Hdk := Lib.hid hdk
    clear hmq hmm hnp hdk hone hij
    go_cut [11] from 14 to 66 (fun v wc => ∃ g2 cap2, v = .slice (some ⟨g2, 0, none⟩) (0 + i + m2) cap2 ∧ Hid (OwnA wc w.heap.size 13 v (0 + i + m2) (flatR ndC (rowP (T.L.eraseIdx i) (skipV i vks)))) ∧ Hid (Mod (fun _ => False) w wc))
    case first =>
      go_wp2_with (refine wpl_append rfl (.tmp 58) (.tmp 65) _ _ rfl w.heap.size 83 (.agg #[.int .u64 0, .bool false, .int .u32 0, .int .u32 0, .string { data := #[] }, .string { data := #[] }, .string { data := #[] }, .int .u32 0, .int .u32 0, .int .u64 0, .string { data := #[] }, .string { data := #[] }, .slice none 0 0]) 13 144 Tryz.underlying84 info_nd rfl (by decide) v1 (0 + i) _ rfl ho1.out _ m2 (List.take (m2 * 13) (List.drop ((i + 1) * 13) (flatR ndC (rowP T.L vks)))) rfl ?hS B1.out B2.out B3.out ?_; rotate_left; intro v2 w8 ho2 hg2)
      case hS.inl => exact hSa.out (by assumption)
      case hS.inr => exact hSb.out
      all_goals
        have hR8 : Hid (OwnA w8 w.heap.size 13 v2 (0 + i + m2) (flatR ndC (rowP (T.L.eraseIdx i) (skipV i vks)))) := by rw [← HFL.out]; exact ho2
        have hM8 : Hid (Mod (fun _ => False) w w8) := ho1.out.thenMod M7.out hg2 (Nat.le_refl _)
        clear ho2 hg2
        go_meet
        case rel =>
          have h1 := hR8.out
          rw [hMq.out] at h1
          obtain ⟨g2, cap2, hv2⟩ := OwnA.succ h1
          exact ⟨g2, cap2, by rw [hv2, hMq.out], hR8, hM8⟩
    case rest =>
    obtain ⟨g2, cap2, rfl, Ho2, M8⟩ := hcut
    have ho2 := Ho2.out
    have M8 := M8.out
    generalize hmv : 0 + i + m2 = mv at *
    have hmm := hMm.out
    have hnp := Hnp.out
    have hdk := Hdk.out
    obtain ⟨hP9, mF9, gF9⟩ := RTreeP.erase H.out hil hmm M8 ho2
    have c08 := keepN M8 c0
    have zb : wc.frozen? ⟨b, 0, none⟩ = false := free_of ((M8.block b (H.out.lt b H.out.fb) (fun e => e)).trans H.out.obj) 0
    generalize hW9 : wc.setCell ⟨b, 0, none⟩ (.slice (some ⟨g2, 0, none⟩) mv cap2) = W9 at hP9 mF9
    have hlk9 : look (T.L.eraseIdx i) n.parent = some d := by rw [← erase_filter hwf.rise hi, look_filter hnp]; exact hd
    obtain ⟨j9, hj9, hjn9, hjl9⟩ := look_get hlk9
    have hlL : (T.L.eraseIdx i).length ≤ 1024 := by rw [List.length_eraseIdx]; split <;> omega
    have hri9 : (T.L.eraseIdx i).Pairwise fun a b => a.path < b.path := hwf.rise.sublist (List.eraseIdx_sublist _ _)
    have hFil := Lib.hid (erase_filter hwf.rise hi)
    generalize skipV i vks = v9 at *
    generalize T.L.eraseIdx i = L9 at *
    generalize hF9 : (fun k => F k ∨ k = g2) = F9 at *
    have hA9 := at_any b g2 cap2 { T with L := L9 } v9 n.parent W9 hP9.rv hlL
    have hA9 : Calls Tryz.prog 97 #[.pointer (some ⟨b, 0, none⟩), .int .u64 n.parent] W9 fun e w' => e = .returned (.int .i64 (j9 : Int)) ∧ W9 = w' := by
      have := hA9
      rw [show atI ({ T with L := L9 } : Tr).L n.parent = (j9 : Int) from atI_some hj9] at this
      exact this
    have HP9 := Lib.hid hP9
    have HF9 := Lib.hid mF9
    have HG9 := Lib.hid gF9
    clear ho2 Ho2 HFL hP9 mF9 gF9 M8 ho1 M7 c07 hct hlk9 hd hjl hjn hj hdl j1 j2 hSa hSb S2 B1 B2 B3 HM2 hmm hmv hMm hMq k1 i1 i2 i3 hln e9 hpd c0
    go_wp2_with fail
    refine hA9.mono ?_
    rintro e w10 ⟨rfl, rfl⟩
    clear hA9 c08 zb
    obtain ⟨kg, kc, hkv⟩ : ∃ kg kc, v9 j9 = .slice (some ⟨kg, 0, none⟩) d.kids.length kc := by
      obtain ⟨x, hx⟩ : ∃ x, d.kids.length = x + 1 := ⟨d.kids.length - 1, by omega⟩
      have h1 := HP9.out.kid j9 d hjn9
      rw [hx] at h1 ⊢
      exact OwnA.succ h1
    have hdkl := hdo.kl
    have Hri9 := Lib.hid hri9
    have Hnp := Lib.hid hnp
    clear hri9 hnp hdk hno hnm hn hi hil q1
    go_wp2
    go_loopw [13] (fun k wr => ∃ q : Nat, q ≤ d.kids.length ∧ k = .int .i64 q ∧ Hid (RTreeP wr F9 b { T with L := L9.set j9 { d with kids := zapK p q d.kids } } g2 cap2 v9) ∧ Hid (Mod F w wr)) (fun k _ => d.kids.length - (intOf k).toNat)
    case atStart =>
      refine ⟨0, Nat.zero_le _, rfl, ?_, HF9.out⟩
      show RTreeP _ _ _ _ _ _ _
      rw [zap_zero, show ({ d with kids := d.kids } : Nd) = d from rfl, set_same hjn9]
      exact HP9.out
    case round =>
      obtain ⟨q, hq, rfl, HQ, HM⟩ := hrel
      have hget := get_set (n := { d with kids := zapK p q d.kids }) hjl9
      have hl9 : ({ T with L := L9.set j9 { d with kids := zapK p q d.kids } } : Tr).L.length = L9.length := List.length_set
      have cw : wr.cell? ⟨b, 0, none⟩ = some (.slice (some ⟨g2, 0, none⟩) L9.length cap2) := by have h1 := HQ.out.rv.c0; rw [hl9] at h1; exact h1
      have hcw : (L9.length : Int) ≤ (cap2 : Int) := by have h1 := HQ.out.rv.cap; rw [hl9] at h1; omega
      have e12 : wr.cell? ⟨g2, j9 * 13 + 12, none⟩ = some (.slice (some ⟨kg, 0, none⟩) d.kids.length kc) := by rw [← hkv]; exact HQ.out.rv.el j9 _ hget 12 _ rfl
      have r1 : (0 : Int) ≤ (j9 : Int) := by omega
      have r2 : (j9 : Int) < (L9.length : Int) := by omega
      clear hl9
      by_cases hlt : q < d.kids.length
      · have q1 : decide ((q : Int) < (d.kids.length : Int)) = true := by simp; omega
        have q1' : decide (q < d.kids.length) = true := by simp; omega
        have hki : OwnA wr 0 1 (.slice (some ⟨kg, 0, none⟩) d.kids.length kc) d.kids.length (kidsV (zapK p q d.kids)) := by
          have h1 : OwnA wr 0 1 (v9 j9) (zapK p q d.kids).length (kidsV (zapK p q d.kids)) := HQ.out.kid j9 _ hget
          rw [zap_len, hkv] at h1
          exact h1
        obtain ⟨hkc, _, hkcell, hkfr⟩ := own_cap hki
        have e0 : wr.cell? ⟨kg, q, none⟩ = some (.int .u64 d.kids[q]) := hkcell q _ (by unfold kidsV; rw [List.getElem?_map, zap_at hlt]; rfl)
        have z0 : wr.frozen? ⟨kg, q, none⟩ = false := hkfr q (by omega)
        have s1 : (0 : Int) ≤ (q : Int) := by omega
        have s2 : (q : Int) < (d.kids.length : Int) := by omega
        have s3 : (d.kids.length : Int) ≤ (kc : Int) := by omega
        by_cases heq : d.kids[q] = p
        · have q2 : ((d.kids[q] : Int) == (p : Int)) = true := by rw [heq]; simp
          obtain ⟨hS, mS⟩ := HQ.out.setKid (x := 0) hget (by show v9 j9 = .slice _ (zapK p q d.kids).length kc; rw [zap_len]; exact hkv) (by show q < (zapK p q d.kids).length; rw [zap_len]; exact hlt)
          have HN : Hid (RTreeP (wr.setCell ⟨kg, q, none⟩ (.int .u64 0)) F9 b { T with L := L9.set j9 { d with kids := zapK p (q + 1) d.kids } } g2 cap2 v9) := by
            show RTreeP _ _ _ _ _ _ _
            rw [zap_succ hlt, if_pos heq]
            have h1 : RTreeP (wr.setCell ⟨kg, q, none⟩ (.int .u64 0)) F9 b { T with L := (L9.set j9 { d with kids := zapK p q d.kids }).set j9 { d with kids := (zapK p q d.kids).set q 0 } } g2 cap2 v9 := hS
            rw [List.set_set] at h1
            exact h1
          have HMN : Hid (Mod F w (wr.setCell ⟨kg, q, none⟩ (.int .u64 0))) := Mod.growsF HM.out HG9.out mS
          clear heq hS mS hki hkcell hkfr
          generalize d.kids[q] = x at *
          go_wp2
          go_roundw
          case rel => exact ⟨q + 1, hlt, by go_num, HN.out, HMN.out⟩
          case measure => simp [intOf]; omega
        · have q2 : ((d.kids[q] : Int) == (p : Int)) = false := by simp; omega
          have HN : Hid (RTreeP wr F9 b { T with L := L9.set j9 { d with kids := zapK p (q + 1) d.kids } } g2 cap2 v9) := by
            show RTreeP _ _ _ _ _ _ _
            rw [zap_same hlt heq]
            exact HQ.out
          clear heq hki hkcell hkfr
          generalize d.kids[q] = x at *
          go_wp2
          go_roundw
          case rel => exact ⟨q + 1, hlt, by go_num, HN.out, HM.out⟩
          case measure => simp [intOf]; omega
      · have q1 : decide ((q : Int) < (d.kids.length : Int)) = false := by simp; omega
        have q1' : decide (q < d.kids.length) = false := by simp; omega
        have hqe : q = d.kids.length := by omega
        have hTo := rtouch_any F9 b g2 cap2 _ v9 n.parent j9 _ who now wr HQ.out (by show (L9.set j9 _).length ≤ 1024; rw [List.length_set]; exact hlL) (idx_set hj9 hjn9 rfl) hget hdo.ver
        have hTL : ({ T with L := (L9.set j9 { d with kids := zapK p q d.kids }).set j9 (Nd.touch { d with kids := zapK p q d.kids } who now) } : Tr) = (removeT T p who now).1 := by
          rw [HS3.out, hFil.out]
          show _ = ({ T with L := updN L9 n.parent _ } : Tr)
          have hu : updN L9 n.parent (fun d => Nd.touch { d with kids := d.kids.map fun k => if k = p then 0 else k } who now) = L9.set j9 (Nd.touch { d with kids := d.kids.map fun k => if k = p then 0 else k } who now) :=
            congrArg Tr.L (stat_upd (T := { T with L := L9 }) Hri9.out (f := fun d => Nd.touch { d with kids := d.kids.map fun k => if k = p then 0 else k } who now) hj9 hjn9)
          rw [hu, List.set_set, hqe, zap_all]
        have HTL := Lib.hid hTL
        have HVR : Hid ((removeT T p who now).2 = 0) := by show _ = _; rw [HS3.out]
        clear hTL hqe HS3
        go_wp2_with fail
        refine hTo.mono ?_
        rintro e w12 ⟨rfl, h12, m12⟩
        have R12 : Hid (RTreeP w12 F9 b (removeT T p who now).1 g2 cap2 v9) := by
          show RTreeP _ _ _ _ _ _ _
          rw [← HTL.out]
          exact h12
        have M12 : Hid (Mod F w w12) := Mod.growsF HM.out HG9.out (m12.mono fun k _ e => by rw [e]; exact h12.fg)
        clear hTo h12 m12
        go_wp2
        go_ret
        unfold RmPost
        rw [HVR.out]
        exact ⟨rfl, F9, g2, cap2, v9, R12.out, M12.out, HG9.out⟩
end Go.Proofs.YtkcnbbjmkkaolaaGreatDoor
namespace Go.Proofs.YtkcnbbjmkkaolaaGreatDoor
open Go.RowKit

/-- a row just made -/
theorem own_fresh {w : World} {base size g n : Nat} {xs : List Value} {e : TypeId} (h : w.heap[g]? = some (.cells xs.toArray e (0, 0))) (hl : xs.length = n * size) (hb : base ≤ g) : OwnA w base size (.slice (some ⟨g, 0, none⟩) n n) n xs :=
  ⟨hl, .inr ⟨g, n, rfl, hb, lt_of h, Nat.le_refl _, fun j hj => by rw [cell_of h, List.getElem?_toArray, List.getElem?_eq_getElem (by omega)]; rfl, fun j _ => free_of h j, fun j u hj => by rw [cell_of h, List.getElem?_toArray]; exact hj⟩⟩
set_option maxHeartbeats 4000000 in
set_option maxRecDepth 100000 in
theorem rNew_any (owner : ByteArray) (now : Nat) (w : World) :
    Calls Tryz.prog 15 #[.string owner, .int .u32 now] w fun e w' => ∃ b F g cap vks, e = .returned (.pointer (some ⟨b, 0, none⟩)) ∧ RTreeP w' F b (newT owner now) g cap vks ∧ Mod (fun _ => False) w w' ∧ ∀ k, F k → w.heap.size ≤ k := by
  obtain ⟨V, hV⟩ : ∃ V, w.alloc (.cells #[.int .u64 1, .bool true, .int .u32 0, .int .u32 493, .string owner, .string owner, .string owner, .int .u32 now, .int .u32 now, .int .u64 1, .string { data := #[47] }, .string { data := #[] }, .slice none 0 0] 83) = V := ⟨_, rfl⟩
  have hv : V.heap[w.heap.size]? = some (.cells #[.int .u64 1, .bool true, .int .u32 0, .int .u32 493, .string owner, .string owner, .string owner, .int .u32 now, .int .u32 now, .int .u64 1, .string { data := #[47] }, .string { data := #[] }, .slice none 0 0] 83 (0, 0)) := by subst hV; exact new_at _ _
  have m0 : Mod (fun _ => False) w V := by subst hV; exact (Mod.refl _ w).alloc _
  have HV := Lib.hid hv
  have M0 := Lib.hid m0
  clear hv m0
  go_enter Tryz.func15, Tryz.ntmps15
  go_wp2
  go_ret
  have hVs : V.heap.size = w.heap.size + 1 := by rw [← hV]; exact World.size_alloc _ _
  generalize hV2 : V.alloc (.cells #[.slice (some ⟨w.heap.size, 0, none⟩) 1 1, .int .u64 1] 86) = V2
  have hb : V2.heap[V.heap.size]? = some (.cells #[.slice (some ⟨w.heap.size, 0, none⟩) 1 1, .int .u64 1] 86 (0, 0)) := by rw [← hV2]; exact new_at _ _
  have hg : V2.heap[w.heap.size]? = some (.cells (ndC (rootNd owner now, .slice none 0 0)).toArray 83 (0, 0)) := by rw [← hV2]; exact alloc_keep HV.out
  have m2 : Mod (fun _ => False) w V2 := by rw [← hV2]; exact M0.out.alloc _
  refine ⟨V.heap.size, fun k => k = w.heap.size ∨ k = V.heap.size, w.heap.size, 1, fun _ => .slice none 0 0, rfl, ⟨hb, own_fresh hg rfl (Nat.zero_le _), fun i n hi => ?_, .inr rfl, .inl rfl, by omega, fun i _ k hk => ?_, fun i j _ _ _ k hk => ?_, fun k hk => ?_⟩, m2, fun k hk => ?_⟩
  · have hi' : [rootNd owner now][i]? = some n := hi
    cases i with
    | zero => injection hi' with hi'; rw [← hi']; exact OwnA.nil _ _ _
    | succ i => cases hi'
  · simp [Value.ownBlock] at hk
  · simp [Value.ownBlock] at hk
  · rcases hk with e | e
    · rw [e]; exact lt_of hg
    · rw [e]; exact lt_of hb
  · rcases hk with e | e <;> omega
end Go.Proofs.YtkcnbbjmkkaolaaGreatDoor
namespace Go.Proofs.YtkcnbbjmkkaolaaGreatDoor
open Go.RowKit

/-- a file as it is told: its stat, its parent, its bytes -/
def flC (f : St × Nat × ByteArray) : List Value := f.1.cells ++ [.int .u64 f.2.1, .string f.2.2]
theorem fl_len (f : St × Nat × ByteArray) : (flC f).length = 15 := rfl
theorem fl_one (f : St × Nat × ByteArray) : ∀ u ∈ flC f, u.oneCell' = true := by
  intro u hu
  unfold flC at hu
  rcases List.mem_append.1 hu with h | h
  · exact st_one f.1 u h
  · simp only [List.mem_cons, List.not_mem_nil, or_false] at h
    rcases h with rfl | rfl <;> rfl
theorem info_fl : (Tryz.prog.info? 50).map (fun i => (i.zero, i.size, i.bytes)) = some (some (.agg #[.int .u16 0, .int .u32 0, .int .u8 0, .int .u32 0, .int .u64 0, .int .u32 0, .int .u32 0, .int .u32 0, .int .u64 0, .string { data := #[] }, .string { data := #[] }, .string { data := #[] }, .string { data := #[] }, .int .u64 0, .string { data := #[] }]), 15, 136) := by kernel_rfl
theorem src_fl1 (f : St × Nat × ByteArray) (wr : World) : Src Tryz.prog 15 46 (.slice (some ⟨wr.heap.size, 0, none⟩) 1 1) 1 (flC f) (wr.alloc (.cells (flC f).toArray 50)) :=
  Src.ofSlice _ Tryz.underlying46 _ _ _ _ rfl (fun j u hj => by rw [Addr.add_mid, Nat.zero_add, cell_of (new_at wr _), List.getElem?_toArray]; exact hj) (fl_one f)
set_option maxHeartbeats 4000000 in
set_option maxRecDepth 100000 in
theorem rAll_any (b g cap : Nat) (T : Tr) (vks : Nat → Value) (w : World) (h : RV w b g cap T vks) (hwf : WF T) :
    Calls Tryz.prog 19 #[.pointer (some ⟨b, 0, none⟩)] w fun e w' => ∃ v, e = .returned v ∧ RecsAt flC 15 w' (w.heap.size ≤ ·) v (allT T) ∧ Mod (fun _ => False) w w' := by
  have hl := hwf.len
  have c0 := h.c0
  have hcap := h.cap
  have H := Lib.hid h
  clear h
  go_enter Tryz.func19, Tryz.ntmps19
  go_wp2
  go_loopw [3, 4] (fun vl k wr => ∃ (j : Nat) (acc : List (St × Nat × ByteArray)), j ≤ T.L.length ∧ k = .int .i64 j ∧ Hid (acc.length = j) ∧ Hid (OwnA wr w.heap.size 15 vl acc.length (flatR flC acc)) ∧ Hid (Mod (fun _ => False) w wr) ∧ Hid ((T.L.take j).map fileOf = acc)) (fun _ k _ => T.L.length - (intOf k).toNat)
  case atStart => exact ⟨0, [], Nat.zero_le _, rfl, rfl, OwnA.nil _ _ _, Mod.refl _ _, rfl⟩
  case round =>
    obtain ⟨j, acc, hj, rfl, HL, HO, HM, HK⟩ := hrel
    have d0 := keepN HM.out c0
    by_cases hlt : j < T.L.length
    · have q1 : decide ((j : Int) < (T.L.length : Int)) = true := by simp; omega
      have q1' : decide (j < T.L.length) = true := by simp; omega
      obtain ⟨n, hn⟩ : ∃ n, T.L[j]? = some n := ⟨_, List.getElem?_eq_getElem hlt⟩
      have hno := hwf.ok n (List.mem_of_getElem? hn)
      have e9 : w.cell? ⟨g, j * 13 + 9, none⟩ = some (.int .u64 n.parent) := H.out.el j n hn 9 _ rfl
      have e11 : w.cell? ⟨g, j * 13 + 11, none⟩ = some (.string n.data) := H.out.el j n hn 11 _ rfl
      have hSt := fun U => rstat_any n (vks j) U hno
      have hrow : ∀ U, Mod (fun _ => False) w U → U.rangeAt g (j * 13) (ndC (n, vks j)) := fun U hU => (H.out.mod hU).elem hn
      have hdl := ndC_len (n, vks j)
      have j1 : (0 : Int) ≤ (j : Int) := by omega
      have j2 : (j : Int) < (T.L.length : Int) := by omega
      have j3 : (T.L.length : Int) ≤ (cap : Int) := by omega
      have HK2 : Hid ((T.L.take (j + 1)).map fileOf = acc ++ [(statOf n, n.parent, n.data)]) := by
        show _ = _
        rw [← HK.out, List.take_add_one, hn]
        simp [fileOf]
      have A3 : Hid ((acc.length + 1) * 136 ≤ 140737488355328) := by show _ ≤ _; rw [HL.out]; omega
      have A4 : Hid (acc.length + 1 ≤ 9223372036854775807) := by show _ ≤ _; rw [HL.out]; omega
      have HL2 : Hid ((acc ++ [(statOf n, n.parent, n.data)]).length = j + 1) := by show _ = _; rw [List.length_append, HL.out]; rfl
      clear hn hno
      generalize statOf n = s at *
      generalize n.parent = np at *
      generalize n.data = nd at *
      unfold St.cells at hSt
      go_upto_region 5 with (fail)
      refine wp_region_held_drew (S := fun w' => Hid (Mod (fun _ => False) w w')) (by kernel_rfl) (Lib.hid HM.out.drew) (fun hHeld => ?_)
      refine hT 0 rfl (fun _ _ => by go_simp; all_goals with_reducible rfl) ?_
      try simp only [gA, gB, gC, Act.put, sA, sB, sC]
      refine hT 1 rfl (fun _ _ => by go_simp; all_goals with_reducible rfl) ?_
      try simp only [gA, gB, gC, Act.put, sA, sB, sC]
      refine hT 2 rfl (fun _ _ => by go_simp; all_goals with_reducible rfl) ?_
      try simp only [gA, gB, gC, Act.put, sA, sB, sC]
      refine hT 3 rfl (fun _ _ => by go_simp; all_goals with_reducible rfl) ?_
      try simp only [gA, gB, gC, Act.put, sA, sB, sC]
      refine hT 4 rfl (fun wH hSw => by have cH := keepN hSw.out c0; clear hSw; go_simp; all_goals with_reducible rfl) ?_
      try simp only [gA, gB, gC, Act.put, sA, sB, sC]
      refine hT 5 rfl (fun _ _ => by go_simp; all_goals with_reducible rfl) ?_
      try simp only [gA, gB, gC, Act.put, sA, sB, sC]
      refine hT 6 rfl (fun _ _ => by go_simp; all_goals with_reducible rfl) ?_
      try simp only [gA, gB, gC, Act.put, sA, sB, sC]
      refine hTy 7 rfl (by kernel_rfl) (fun _ _ _ h => h) (by assumption) (yieldsIf_load_mid (by rfl) 83 (.tmp 20) rfl g (j * 13) rfl (ndC (n, vks j)) _ (fun wH hSw => hrow wH hSw.out) Tryz.underlying83 rfl (by kernel_rfl)) ?_
      try simp only [gA, gB, gC, Act.put, sA, sB, sC]
      refine hT 9 rfl (fun _ _ => by go_simp; all_goals with_reducible rfl) ?_
      try simp only [gA, gB, gC, Act.put, sA, sB, sC]
      refine hT 10 rfl (fun _ _ => by go_simp; all_goals with_reducible rfl) ?_
      try simp only [gA, gB, gC, Act.put, sA, sB, sC]
      refine hT 11 rfl (fun _ _ => by go_simp; all_goals with_reducible rfl) ?_
      try simp only [gA, gB, gC, Act.put, sA, sB, sC]
      refine hT 12 rfl (fun wH hSw => by have cH := keepN hSw.out c0; clear hSw; go_simp; all_goals with_reducible rfl) ?_
      try simp only [gA, gB, gC, Act.put, sA, sB, sC]
      refine hT 13 rfl (fun _ _ => by go_simp; all_goals with_reducible rfl) ?_
      try simp only [gA, gB, gC, Act.put, sA, sB, sC]
      refine hT 14 rfl (fun _ _ => by go_simp; all_goals with_reducible rfl) ?_
      try simp only [gA, gB, gC, Act.put, sA, sB, sC]
      refine hT 15 rfl (fun _ _ => by go_simp; all_goals with_reducible rfl) ?_
      try simp only [gA, gB, gC, Act.put, sA, sB, sC]
      refine hT 16 rfl (fun wH hSw => by have cH := keepN hSw.out e9; clear hSw; go_simp; all_goals with_reducible rfl) ?_
      try simp only [gA, gB, gC, Act.put, sA, sB, sC]
      refine hT 17 rfl (fun _ _ => by go_simp; all_goals with_reducible rfl) ?_
      try simp only [gA, gB, gC, Act.put, sA, sB, sC]
      refine hT 18 rfl (fun _ _ => by go_simp; all_goals with_reducible rfl) ?_
      try simp only [gA, gB, gC, Act.put, sA, sB, sC]
      refine hT 19 rfl (fun _ _ => by go_simp; all_goals with_reducible rfl) ?_
      try simp only [gA, gB, gC, Act.put, sA, sB, sC]
      refine hT 20 rfl (fun wH hSw => by have cH := keepN hSw.out c0; clear hSw; go_simp; all_goals with_reducible rfl) ?_
      try simp only [gA, gB, gC, Act.put, sA, sB, sC]
      refine hT 21 rfl (fun _ _ => by go_simp; all_goals with_reducible rfl) ?_
      try simp only [gA, gB, gC, Act.put, sA, sB, sC]
      refine hT 22 rfl (fun _ _ => by go_simp; all_goals with_reducible rfl) ?_
      try simp only [gA, gB, gC, Act.put, sA, sB, sC]
      refine hT 23 rfl (fun _ _ => by go_simp; all_goals with_reducible rfl) ?_
      try simp only [gA, gB, gC, Act.put, sA, sB, sC]
      refine hT 24 rfl (fun wH hSw => by have cH := keepN hSw.out e11; clear hSw; go_simp; all_goals with_reducible rfl) ?_
      try simp only [gA, gB, gC, Act.put, sA, sB, sC]
      refine hR1 8 rfl fun K hK => ?_
      go_simp
      refine (hSt _).mono ?_
      rintro e w4 ⟨rfl, m4⟩
      refine hK.out _ _ (Lib.hid (hHeld.out.trans m4)) ?_; clear hK K hHeld; intro hHeld
      try simp only [gA, gB, gC, Act.put, sA, sB, sC]
      refine hT 25 rfl (fun _ _ => by go_simp; all_goals with_reducible rfl) ?_
      try simp only [gA, gB, gC, Act.put, sA, sB, sC]
      refine hR1 26 rfl fun K hK => ?_
      go_simp
      have mA : Mod (fun _ => False) w (w4.alloc (.cells (flC (s, np, nd)).toArray 50)) := hHeld.out.alloc (.cells (flC (s, np, nd)).toArray 50)
      have HO2 : Hid (OwnA (w4.alloc (.cells (flC (s, np, nd)).toArray 50)) w.heap.size 15 u3 acc.length (flatR flC acc)) := HO.out.mod (Mod.alloc (Mod.ofDrew m4) _) fun _ _ x => x
      have A2 := Lib.hid (src_fl1 (s, np, nd) w4)
      have A5 : Hid (w.heap.size ≤ (w4.alloc (.cells (flC (s, np, nd)).toArray 50)).heap.size) := mA.size
      have hlit : (.cells (flC (s, np, nd)).toArray 50 : Obj) = .cells #[.int .u16 s.ty, .int .u32 s.dev, .int .u8 s.qt, .int .u32 s.qv, .int .u64 s.qp, .int .u32 s.mo, .int .u32 s.at_, .int .u32 s.mt, .int .u64 s.len, .string s.n, .string s.u, .string s.g, .string s.m, .int .u64 np, .string nd] 50 := rfl
      rw [hlit] at mA HO2 A2 A5
      generalize hW5 : w4.alloc (.cells #[.int .u16 s.ty, .int .u32 s.dev, .int .u8 s.qt, .int .u32 s.qv, .int .u64 s.qp, .int .u32 s.mo, .int .u32 s.at_, .int .u32 s.mt, .int .u64 s.len, .string s.n, .string s.u, .string s.g, .string s.m, .int .u64 np, .string nd] 50) = W5 at mA HO2 A2 A5 ⊢
      clear hlit hW5
      refine hK.out _ _ (Lib.hid (mA)) ?_; clear hK K hHeld; intro hHeld
      try simp only [gA, gB, gC, Act.put, sA, sB, sC]
      refine hR1 27 rfl fun K hK => ?_
      refine Eq.mpr (if_pos ?hwant) ?_
      case hwant => rfl
      refine op_append (.tmp 14) (.tmp 40) _ _ rfl w.heap.size 50 (.agg #[.int .u16 0, .int .u32 0, .int .u8 0, .int .u32 0, .int .u64 0, .int .u32 0, .int .u32 0, .int .u32 0, .int .u64 0, .string { data := #[] }, .string { data := #[] }, .string { data := #[] }, .string { data := #[] }, .int .u64 0, .string { data := #[] }]) 15 136 Tryz.underlying46 info_fl rfl (by decide) u3 _ _ rfl HO2.out _ _ _ rfl A2.out A3.out A4.out A5.out ?_
      intro v' w6 hown' hgrow _
      have hO : ∀ k, some k = u3.ownBlock → w.heap.size ≤ k := fun k hk => (HO.out.lt k hk).1
      have m6 : Mod (fun _ => False) w w6 := hHeld.out.trans' hgrow fun k hk e => by have := hO k e; omega
      have hfl : flatR flC acc ++ flC (s, np, nd) = flatR flC (acc ++ [(s, np, nd)]) := by rw [flatR_append]; simp [flatR]
      have HO3 : Hid (OwnA w6 w.heap.size 15 v' (acc ++ [(s, np, nd)]).length (flatR flC (acc ++ [(s, np, nd)]))) := by show OwnA _ _ _ _ _ _; rw [List.length_append, ← hfl]; exact hown'
      clear hown' hgrow hfl
      refine hK.out _ _ (Lib.hid (m6)) ?_; clear hK K hHeld; intro hHeld
      try simp only [gA, gB, gC, Act.put, sA, sB, sC]
      refine hT 28 rfl (fun _ _ => by go_simp; all_goals with_reducible rfl) ?_
      try simp only [gA, gB, gC, Act.put, sA, sB, sC]
      refine wpAnyH_done (by kernel_rfl) ?_ _
      go_wp2
      go_roundw
      case rel => exact ⟨j + 1, acc ++ [(s, np, nd)], hlt, by go_num, HL2.out, HO3.out, hHeld.out, HK2.out⟩
      case measure => simp [intOf]; omega
    · obtain rfl : j = T.L.length := by omega
      have q1 : decide ((T.L.length : Int) < (T.L.length : Int)) = false := by simp
      have q1' : decide (T.L.length < T.L.length) = false := by simp
      rw [List.take_length] at HK
      go_wp2
      go_ret
      refine ⟨u3, rfl, ?_, HM.out⟩
      unfold allT
      rw [HK.out]
      exact OwnA.recs (cs := flC) (sz := 15) (by decide) fl_len HO.out
end Go.Proofs.YtkcnbbjmkkaolaaGreatDoor
namespace Go.Proofs.YtkcnbbjmkkaolaaGreatDoor
open Go.RowKit

def eqS (s t : St) : Bool := s.ty == t.ty && (s.dev == t.dev && ((s.qt == t.qt && (s.qv == t.qv && s.qp == t.qp)) && (s.mo == t.mo && (s.at_ == t.at_ && (s.mt == t.mt && (s.len == t.len && (s.n.toList == t.n.toList && (s.u.toList == t.u.toList && (s.g.toList == t.g.toList && s.m.toList == t.m.toList)))))))))
theorem toList_inj {a b : ByteArray} (h : a.toList = b.toList) : a = b := by
  rw [ByteArray.toList_eq, ByteArray.toList_eq] at h
  exact ByteArray.ext (Array.toList_inj.1 h)
theorem eqS_iff (s t : St) : eqS s t = true ↔ s = t := by
  constructor
  · intro h
    simp only [eqS, Bool.and_eq_true, beq_iff_eq] at h
    obtain ⟨h0, h1, ⟨h2, h3, h4⟩, h5, h6, h7, h8, h9, h10, h11, h12⟩ := h
    obtain ⟨a0, a1, a2, a3, a4, a5, a6, a7, a8, a9, a10, a11, a12⟩ := s
    obtain ⟨b0, b1, b2, b3, b4, b5, b6, b7, b8, b9, b10, b11, b12⟩ := t
    simp only at *
    rw [h0, h1, h2, h3, h4, h5, h6, h7, h8, toList_inj h9, toList_inj h10, toList_inj h11, toList_inj h12]
  · rintro rfl
    simp [eqS]
theorem ibeq (a b : Nat) : ((a : Int) == (b : Int)) = (a == b) := by
  by_cases h : a = b
  · subst h; simp
  · have : ((a : Int) == (b : Int)) = false := by simp; omega
    rw [this]; simp [h]
theorem if_ok {p : Prop} [Decidable p] (B : Bool) (w : World) : (if p then Result.ok B w else Result.ok false w) = Result.ok (decide p && B) w := by
  by_cases h : p <;> simp [h]
theorem Nat.beq_eq_decide (a b : Nat) : (a == b) = decide (a = b) := by by_cases h : a = b <;> simp [h]
theorem lbeq (a b : List UInt8) : (a == b) = decide (a = b) := by by_cases h : a = b <;> simp [h]
set_option maxHeartbeats 1000000 in
theorem equal_run (s t : St) (w : World) : (Op.equalIn 10000 37 s.v t.v).run Tryz.prog w = .ok (eqS s t) w := by
  have ht : Tryz.prog.underlying 37 = some (.struct (Tryz.prog.fieldsOf 37)) := by kernel_rfl
  have hp : Tryz.prog.stoodInHeld 37 = false := by kernel_rfl
  have ht2 : Tryz.prog.underlying 35 = some (.struct (Tryz.prog.fieldsOf 35)) := by kernel_rfl
  have hp2 : Tryz.prog.stoodInHeld 35 = false := by kernel_rfl
  unfold St.v St.cells
  rw [show (10000 : Nat) = 9999 + 1 from rfl, run_equalIn_agg w 9999 _ _ _ ht hp]
  simp [go_sem, Op.eqFields]
  simp only [if_ok]
  simp only [eqS, Nat.beq_eq_decide, lbeq, Int.natCast_inj, Bool.and_assoc, Bool.and_true]
theorem eql_any (s t : St) (w : World) : (binOp .eql 37 s.v t.v).run Tryz.prog w = .ok (.bool (eqS s t)) w := by
  show (binOp .eql 37 (.agg _) (.agg _)).run Tryz.prog w = _
  rw [run_eql_struct, show (Op.equalIn 10000 37 (.agg s.cells.toArray) (.agg t.cells.toArray)).run Tryz.prog w = _ from equal_run s t w]
  rfl
theorem neq_any (s t : St) (w : World) : (binOp .neq 37 s.v t.v).run Tryz.prog w = .ok (.bool (!eqS s t)) w := by
  show (binOp .neq 37 (.agg _) (.agg _)).run Tryz.prog w = _
  rw [run_neq_struct, show (Op.equalIn 10000 37 (.agg s.cells.toArray) (.agg t.cells.toArray)).run Tryz.prog w = _ from equal_run s t w]
  rfl
end Go.Proofs.YtkcnbbjmkkaolaaGreatDoor
namespace Go.Proofs.YtkcnbbjmkkaolaaGreatDoor
open Go.RowKit

theorem or8_any (a u i : Nat) (w : World) : Calls Tryz.prog 112 #[.int .u8 a, .int .u8 u, .int .u8 i] w fun e w' => e = .returned (.int .u8 (orN a u i)) ∧ w = w' := by
  by_cases h : a = u
  · have q : ((a : Int) == (u : Int)) = true := by rw [h]; simp
    have HV : Hid (orN a u i = i) := if_pos h
    clear h
    go_enter Tryz.func112, Tryz.ntmps112
    go_wp2
    go_ret
    exact ⟨by rw [HV.out]; rfl, rfl⟩
  · have q : ((a : Int) == (u : Int)) = false := by simp; omega
    have HV : Hid (orN a u i = a) := if_neg h
    clear h
    go_enter Tryz.func112, Tryz.ntmps112
    go_wp2
    go_ret
    exact ⟨by rw [HV.out]; rfl, rfl⟩
theorem or16_any (a u i : Nat) (w : World) : Calls Tryz.prog 115 #[.int .u16 a, .int .u16 u, .int .u16 i] w fun e w' => e = .returned (.int .u16 (orN a u i)) ∧ w = w' := by
  by_cases h : a = u
  · have q : ((a : Int) == (u : Int)) = true := by rw [h]; simp
    have HV : Hid (orN a u i = i) := if_pos h
    clear h
    go_enter Tryz.func115, Tryz.ntmps115
    go_wp2
    go_ret
    exact ⟨by rw [HV.out]; rfl, rfl⟩
  · have q : ((a : Int) == (u : Int)) = false := by simp; omega
    have HV : Hid (orN a u i = a) := if_neg h
    clear h
    go_enter Tryz.func115, Tryz.ntmps115
    go_wp2
    go_ret
    exact ⟨by rw [HV.out]; rfl, rfl⟩
theorem or32_any (a u i : Nat) (w : World) : Calls Tryz.prog 113 #[.int .u32 a, .int .u32 u, .int .u32 i] w fun e w' => e = .returned (.int .u32 (orN a u i)) ∧ w = w' := by
  by_cases h : a = u
  · have q : ((a : Int) == (u : Int)) = true := by rw [h]; simp
    have HV : Hid (orN a u i = i) := if_pos h
    clear h
    go_enter Tryz.func113, Tryz.ntmps113
    go_wp2
    go_ret
    exact ⟨by rw [HV.out]; rfl, rfl⟩
  · have q : ((a : Int) == (u : Int)) = false := by simp; omega
    have HV : Hid (orN a u i = a) := if_neg h
    clear h
    go_enter Tryz.func113, Tryz.ntmps113
    go_wp2
    go_ret
    exact ⟨by rw [HV.out]; rfl, rfl⟩
theorem or64_any (a u i : Nat) (w : World) : Calls Tryz.prog 114 #[.int .u64 a, .int .u64 u, .int .u64 i] w fun e w' => e = .returned (.int .u64 (orN a u i)) ∧ w = w' := by
  by_cases h : a = u
  · have q : ((a : Int) == (u : Int)) = true := by rw [h]; simp
    have HV : Hid (orN a u i = i) := if_pos h
    clear h
    go_enter Tryz.func114, Tryz.ntmps114
    go_wp2
    go_ret
    exact ⟨by rw [HV.out]; rfl, rfl⟩
  · have q : ((a : Int) == (u : Int)) = false := by simp; omega
    have HV : Hid (orN a u i = a) := if_neg h
    clear h
    go_enter Tryz.func114, Tryz.ntmps114
    go_wp2
    go_ret
    exact ⟨by rw [HV.out]; rfl, rfl⟩
/-- of a text: asked for, or what is there -/
theorem orS_any (a i : ByteArray) (w : World) : Calls Tryz.prog 116 #[.string a, .string { data := #[] }, .string i] w fun e w' => e = .returned (.string (orS a i)) ∧ w = w' := by
  by_cases h : a.size = 0
  · have q : a.toList.isEmpty = true := by rw [empty_beq]; simpa using h
    have HV : Hid (orS a i = i) := if_pos h
    clear h
    go_enter Tryz.func116, Tryz.ntmps116
    go_wp2
    go_ret
    exact ⟨by rw [HV.out]; rfl, rfl⟩
  · have q : a.toList.isEmpty = false := by rw [empty_beq]; simpa using h
    have HV : Hid (orS a i = a) := if_neg h
    clear h
    go_enter Tryz.func116, Tryz.ntmps116
    go_wp2
    go_ret
    exact ⟨by rw [HV.out]; rfl, rfl⟩
end Go.Proofs.YtkcnbbjmkkaolaaGreatDoor
namespace Go.Proofs.YtkcnbbjmkkaolaaGreatDoor
open Go.RowKit

/-- a name's error -/
def nmE (b : Bool) : Int := if b = true then 0 else 183
theorem mname_any (s : ByteArray) (w : World) (hs : s.size ≤ 1099511627776) (hT : Tabs w) :
    Calls Tryz.prog 35 #[.string s] w fun e w' => e = .returned (.int .i64 (nmE (nameOk s))) ∧ Mod (fun _ => False) w w' := name_any s w (by omega) hT
theorem muser_any (s : ByteArray) (w : World) (hs : s.size ≤ 1099511627776) (hT : Tabs w) :
    Calls Tryz.prog 12 #[.string s] w fun e w' => e = .returned (.int .i64 (nmE (userOk s))) ∧ Mod (fun _ => False) w w' := by
  have hN := mname_any s w hs hT
  have HU : Hid (userOk s = (nameOk s && decide (s.size ≤ 20))) := rfl
  by_cases h : s.size ≤ 20
  · have t1 : decide (20 < (s.size : Int)) = false := by simp; omega
    have HV : Hid (userOk s = nameOk s) := by show _ = _; rw [HU.out, decide_eq_true h, Bool.and_true]
    clear h
    go_enter Tryz.func12, Tryz.ntmps12
    go_wp2_with fail
    refine hN.mono ?_
    rintro e w1 ⟨rfl, m1⟩
    go_wp2
    go_ret
    exact ⟨by rw [HV.out]; rfl, m1⟩
  · have t1 : decide (20 < (s.size : Int)) = true := by simp; omega
    have HV : Hid (userOk s = false) := by show _ = _; rw [HU.out, decide_eq_false h, Bool.and_false]
    clear h
    go_enter Tryz.func12, Tryz.ntmps12
    go_wp2
    go_ret
    exact ⟨by rw [HV.out]; rfl, Mod.refl _ _⟩
end Go.Proofs.YtkcnbbjmkkaolaaGreatDoor
namespace Go.Proofs.YtkcnbbjmkkaolaaGreatDoor
open Go.RowKit

/-- a node's cells: its stat as it lies (its length nought), its parent, its bytes, its kids -/
def pnC (p : Nd × Value) : List Value := [.int .u16 0, .int .u32 0, .int .u8 (if p.1.dir then 128 else 0), .int .u32 p.1.ver, .int .u64 p.1.path, .int .u32 (modeOf p.1), .int .u32 p.1.atime, .int .u32 p.1.mtime, .int .u64 0, .string p.1.name, .string p.1.uid, .string p.1.gid, .string p.1.muid, .int .u64 p.1.parent, .string p.1.data, p.2]
theorem pn_len (p : Nd × Value) : (pnC p).length = 16 := rfl
def pnO (n : Nd) (vk : Value) : Obj := .cells (pnC (n, vk)).toArray 78 (0, 0)
theorem pdir_any (a : Nat) (n : Nd) (vk : Value) (w : World) (h : w.heap[a]? = some (pnO n vk)) :
    Calls Tryz.prog 54 #[.pointer (some ⟨a, 0, none⟩)] w fun e w' => e = .returned (.bool n.dir) ∧ w = w' := by
  have c2 : w.cell? ⟨a, 2, none⟩ = some (.int .u8 (if n.dir then 128 else 0)) := (cell_of h 2).trans rfl
  clear h
  cases hd : n.dir with
  | true =>
    rw [hd] at c2
    have c2 : w.cell? ⟨a, 2, none⟩ = some (.int .u8 128) := c2
    go_enter Tryz.func54, Tryz.ntmps54
    go_wp2
    go_ret
    exact ⟨rfl, rfl⟩
  | false =>
    rw [hd] at c2
    have c2 : w.cell? ⟨a, 2, none⟩ = some (.int .u8 0) := c2
    go_enter Tryz.func54, Tryz.ntmps54
    go_wp2
    go_ret
    exact ⟨rfl, rfl⟩
theorem and7_bt : ∀ b : Fin 8, 7 &&& b.val = b.val := of_decide_eq_true (by kernel_rfl)
theorem mode_shr {n : Nd} {k bt : Nat} (hk : k = 0 ∨ k = 3 ∨ k = 6) (hb : bt < 8) (hp : n.perm < 512) : modeOf n >>> k &&& bt = (n.perm >>> k &&& 7) &&& bt := by
  have h7 : 7 &&& bt = bt := and7_bt ⟨bt, hb⟩
  have hx : ∀ x : Nat, x &&& bt = (x &&& 7) &&& bt := fun x => by rw [Nat.and_assoc, h7]
  rw [hx (modeOf n >>> k)]
  congr 1
  have hm : ∀ x : Nat, x &&& 7 = x % 8 := fun x => Nat.and_two_pow_sub_one_eq_mod x 3
  rw [hm, hm, Nat.shiftRight_eq_div_pow, Nat.shiftRight_eq_div_pow]
  unfold modeOf
  rcases hk with rfl | rfl | rfl
  · split <;> omega
  · split <;> omega
  · split <;> omega
set_option maxHeartbeats 1000000 in
theorem pmay_any (a : Nat) (n : Nd) (vk : Value) (who : ByteArray) (bt : Nat) (w : World) (h : w.heap[a]? = some (pnO n vk)) (hb : bt < 8) (hp : n.perm < 512) :
    Calls Tryz.prog 56 #[.pointer (some ⟨a, 0, none⟩), .string who, .int .u32 bt] w fun e w' => e = .returned (.bool (mayB n who bt)) ∧ w = w' := by
  have c5 : w.cell? ⟨a, 5, none⟩ = some (.int .u32 (modeOf n)) := (cell_of h 5).trans rfl
  have c10 : w.cell? ⟨a, 10, none⟩ = some (.string n.uid) := (cell_of h 10).trans rfl
  have c11 : w.cell? ⟨a, 11, none⟩ = some (.string n.gid) := (cell_of h 11).trans rfl
  have hm : modeOf n < 4294967296 := by unfold modeOf; split <;> omega
  have M0 := mode_shr (n := n) (k := 0) (bt := bt) (.inl rfl) hb hp
  have M3 := mode_shr (n := n) (k := 3) (bt := bt) (.inr (.inl rfl)) hb hp
  have M6 := mode_shr (n := n) (k := 6) (bt := bt) (.inr (.inr rfl)) hb hp
  rw [Nat.shiftRight_zero, Nat.shiftRight_zero] at M0
  have h3 : modeOf n >>> 3 < 4294967296 := by rw [Nat.shiftRight_eq_div_pow]; omega
  have h6 : modeOf n >>> 6 < 4294967296 := by rw [Nat.shiftRight_eq_div_pow]; omega
  have y0 := u32_and_nat (modeOf n) bt hm (by omega)
  have y1 : bits .and .u32 ((modeOf n : Int) / 8) bt = ((modeOf n >>> 3 &&& bt : Nat) : Int) := by rw [← u32_and_nat (modeOf n >>> 3) bt h3 (by omega), shr_int]; rfl
  have y2 : bits .and .u32 ((modeOf n : Int) / 64) bt = ((modeOf n >>> 6 &&& bt : Nat) : Int) := by rw [← u32_and_nat (modeOf n >>> 6) bt h6 (by omega), shr_int]; rfl
  rw [M0] at y0
  rw [M3] at y1
  rw [M6] at y2
  have HM : Hid (mayB n who bt = ((if who = n.uid then n.perm >>> 6 &&& 7 else if who = n.gid then n.perm >>> 3 &&& 7 else n.perm &&& 7) &&& bt == bt)) := rfl
  generalize n.perm &&& 7 = q0 at *
  generalize n.perm >>> 3 &&& 7 = q1 at *
  generalize n.perm >>> 6 &&& 7 = q2 at *
  have s1 : (who.toList == n.gid.toList) = decide (who = n.gid) := str_beq _ _
  have s2 : (who.toList == n.uid.toList) = decide (who = n.uid) := str_beq _ _
  have hbe : ∀ x : Nat, ((x : Int) == (bt : Int)) = (x == bt) := fun x => by
    rw [Bool.eq_iff_iff, beq_iff_eq, beq_iff_eq]; omega
  have HB := Lib.hid hbe
  clear h h3 h6 hbe M0 M3 M6 hm
  generalize modeOf n = m at *
  by_cases hu : who = n.uid
  · have HV : Hid (mayB n who bt = (q2 &&& bt == bt)) := by show _ = _; rw [HM.out, if_pos hu]
    rw [decide_eq_true hu] at s2
    clear HM hu s1
    go_enter Tryz.func56, Tryz.ntmps56
    go_wp2
    go_ret
    exact ⟨by rw [HV.out, ← HB.out]; rfl, rfl⟩
  · rw [decide_eq_false hu] at s2
    by_cases hg : who = n.gid
    · have HV : Hid (mayB n who bt = (q1 &&& bt == bt)) := by show _ = _; rw [HM.out, if_neg hu, if_pos hg]
      rw [decide_eq_true hg] at s1
      clear HM hu hg
      go_enter Tryz.func56, Tryz.ntmps56
      go_wp2
      go_ret
      exact ⟨by rw [HV.out, ← HB.out]; rfl, rfl⟩
    · have HV : Hid (mayB n who bt = (q0 &&& bt == bt)) := by show _ = _; rw [HM.out, if_neg hu, if_neg hg]
      rw [decide_eq_false hg] at s1
      clear HM hu hg
      go_enter Tryz.func56, Tryz.ntmps56
      go_wp2
      go_ret
      exact ⟨by rw [HV.out, ← HB.out]; rfl, rfl⟩
end Go.Proofs.YtkcnbbjmkkaolaaGreatDoor
namespace Go.Proofs.YtkcnbbjmkkaolaaGreatDoor
open Go.RowKit

set_option maxHeartbeats 1000000 in
theorem ptouch_any (a : Nat) (n : Nd) (vk : Value) (who : ByteArray) (now : Nat) (w : World) (h : w.heap[a]? = some (pnO n vk)) (hv : n.ver < 4294967296) :
    Calls Tryz.prog 65 #[.pointer (some ⟨a, 0, none⟩), .string who, .int .u32 now] w fun e w' => e = .returned (.tuple #[]) ∧ w'.heap[a]? = some (pnO (n.touch who now) vk) ∧ Mod (· = a) w w' := by
  obtain ⟨nv, hnv⟩ : ∃ nv, (n.ver + 1) % 4294967296 = nv := ⟨_, rfl⟩
  have z : IntKind.u32.wrap ((n.ver : Int) + 1) = (nv : Int) := by rw [IntKind.wrap_u32, ← hnv]; omega
  have z' : ((n.ver : Int) + 1) % 4294967296 = (nv : Int) := by rw [← hnv]; omega
  have c3 : w.cell? ⟨a, 3, none⟩ = some (.int .u32 n.ver) := (cell_of h 3).trans rfl
  have f3 := free_of h 3
  have h1 := heap_set h 3 (.int .u32 (nv : Int))
  have m1 : Mod (· = a) w (w.setCell ⟨a, 3, none⟩ (.int .u32 (nv : Int))) := Mod.set1 w a 3 _
  generalize hW1 : w.setCell ⟨a, 3, none⟩ (.int .u32 (nv : Int)) = W1 at *
  have c7 : W1.cell? ⟨a, 7, none⟩ = some (.int .u32 n.mtime) := (cell_of h1 7).trans rfl
  have f7 := free_of h1 7
  have h2 := heap_set h1 7 (.int .u32 (now : Int))
  have m2 : Mod (· = a) W1 (W1.setCell ⟨a, 7, none⟩ (.int .u32 (now : Int))) := Mod.set1 W1 a 7 _
  generalize hW2 : W1.setCell ⟨a, 7, none⟩ (.int .u32 (now : Int)) = W2 at *
  have c12 : W2.cell? ⟨a, 12, none⟩ = some (.string n.muid) := (cell_of h2 12).trans rfl
  have f12 := free_of h2 12
  have h3 := heap_set h2 12 (.string who)
  have m3 : Mod (· = a) W2 (W2.setCell ⟨a, 12, none⟩ (.string who)) := Mod.set1 W2 a 12 _
  have HE : Hid ((W2.setCell ⟨a, 12, none⟩ (.string who)).heap[a]? = some (pnO (n.touch who now) vk)) := by
    show _ = _
    rw [h3]
    unfold pnO pnC Nd.touch
    rw [hnv]
    rfl
  have HM : Hid (Mod (· = a) w (W2.setCell ⟨a, 12, none⟩ (.string who))) := (m1.trans m2).trans m3
  clear h h1 h2 h3 m1 m2 m3 hnv hv
  go_enter Tryz.func65, Tryz.ntmps65
  go_wp2
  go_end0
  exact ⟨rfl, HE.out, HM.out⟩
/-- a stat as it lies in a node -/
def statL (n : Nd) : St := { statOf n with len := 0 }
theorem pn_rng {w : World} {a : Nat} {n : Nd} {vk : Value} (h : w.heap[a]? = some (pnO n vk)) : w.rangeAt a 0 (statL n).cells := fun j u hu => by
  have h1 : pnC (n, vk) = (statL n).cells ++ [.int .u64 n.parent, .string n.data, vk] := by
    obtain ⟨_, d, _, _, _, _, _, _, _, _, _, _, _⟩ := n
    cases d <;> rfl
  rw [Nat.zero_add, cell_of h, List.getElem?_toArray, h1, List.getElem?_append_left (List.getElem?_eq_some_iff.1 hu).1]
  exact hu
set_option maxHeartbeats 1000000 in
set_option maxRecDepth 100000 in
theorem ptold_any (a : Nat) (n : Nd) (vk : Value) (w : World) (h : w.heap[a]? = some (pnO n vk)) (hd : n.data.size ≤ 7168) :
    Calls Tryz.prog 47 #[.pointer (some ⟨a, 0, none⟩)] w fun e w' => e = .returned (.agg (statOf n).cells.toArray) ∧ Mod (fun _ => False) w w' := by
  have hal := lt_of h
  obtain ⟨V, hV⟩ : ∃ V, w.alloc (.cells #[.int .u16 0, .int .u32 0, .int .u8 0, .int .u32 0, .int .u64 0, .int .u32 0, .int .u32 0, .int .u32 0, .int .u64 0, .string { data := #[] }, .string { data := #[] }, .string { data := #[] }, .string { data := #[] }] 37) = V := ⟨_, rfl⟩
  have hv : V.heap[w.heap.size]? = some (.cells #[.int .u16 0, .int .u32 0, .int .u8 0, .int .u32 0, .int .u64 0, .int .u32 0, .int .u32 0, .int .u32 0, .int .u64 0, .string { data := #[] }, .string { data := #[] }, .string { data := #[] }, .string { data := #[] }] 37 (0, 0)) := by subst hV; exact new_at _ _
  have m0 : Mod (fun _ => False) w V := by subst hV; exact (Mod.refl _ w).alloc _
  have hA := (m0.block a hal (fun x => x)).trans h
  have hr := pn_rng hA
  have hsl := st_len (statL n)
  have hu64 : IntKind.u64.wrap (n.data.size : Int) = n.data.size := by rw [IntKind.wrap_u64]; omega
  have HA := Lib.hid hA
  have HZ := Lib.hid hv
  have M0 := Lib.hid m0
  clear hA hv m0 h
  go_enter Tryz.func47, Tryz.ntmps47
  go_upto_region 2 with (first | refine wpList_load_mid rfl 37 (.tmp 6) rfl a 0 rfl (statL n).cells _ hr Tryz.underlying37 rfl (by kernel_rfl) ?_ | (refine wpl_store_row rfl 37 (.tmp 3) (.tmp 7) rfl rfl V.heap.size (statL n).cells rfl rfl 37 _ (new_at _ _) rfl (st_one _) (by kernel_rfl) ?_; intro V1 hd1 md1))
  have mV1 : Mod (fun _ => False) V V1 := ((Mod.refl (fun _ => False) V).alloc _).trans' md1 fun k hk e => by omega
  have hVs : w.heap.size < V.heap.size := lt_of HZ.out
  have cD : V1.cell? ⟨a, 14, none⟩ = some (.string n.data) := (cell_of ((mV1.block a (lt_of HA.out) (fun x => x)).trans HA.out) 14).trans rfl
  have c8 : V1.cell? ⟨V.heap.size, 8, none⟩ = some (.int .u64 0) := (cell_of hd1 8).trans rfl
  have f8 := free_of hd1 8
  have hS := heap_set hd1 8 (.int .u64 (n.data.size : Int))
  have mS : Mod (· = V.heap.size) V1 (V1.setCell ⟨V.heap.size, 8, none⟩ (.int .u64 (n.data.size : Int))) := Mod.set1 V1 _ 8 _
  generalize hW2 : V1.setCell ⟨V.heap.size, 8, none⟩ (.int .u64 (n.data.size : Int)) = W2 at *
  have hS : W2.heap[V.heap.size]? = some (.cells (statOf n).cells.toArray 37 (0, 0)) := hS
  have hr2 : W2.rangeAt V.heap.size 0 (statOf n).cells := st_rng hS
  have hz2 := (mS.block _ (by have := mV1.size; omega) (fun e => by omega)).trans ((mV1.block _ hVs (fun x => x)).trans HZ.out)
  have M2 : Hid (Mod (fun _ => False) w W2) := (M0.out.trans mV1).trans' mS fun k hk e => by omega
  have hsl2 := st_len (statOf n)
  clear hr hd1 md1 mV1 hS mS hV
  go_wp2_with (first | refine wpList_load_mid rfl 37 (.tmp 3) rfl V.heap.size 0 rfl (statOf n).cells _ hr2 Tryz.underlying37 rfl (by kernel_rfl) ?_ | (refine wpl_store_row rfl 37 (.tmp 2) (.tmp 15) rfl rfl w.heap.size (statOf n).cells rfl rfl 37 _ hz2 rfl (st_one _) (by kernel_rfl) ?_; intro V9 hv9 mv9))
  have MV : Mod (fun _ => False) w V9 := M2.out.trans' mv9 fun k hk e => by omega
  exact bodyPost_ret (results_cell1 rfl _ _ V9 w.heap.size (statOf n).cells _ rfl (st_rng hv9) Tryz.underlying37 rfl (by kernel_rfl)) rfl ⟨rfl, MV⟩
end Go.Proofs.YtkcnbbjmkkaolaaGreatDoor
namespace Go.Proofs.YtkcnbbjmkkaolaaGreatDoor
open Go.RowKit

theorem rep_zero (n : Nat) : (⟨(Lib.repeatL (ByteArray.mk #[0]).data.toList n).toArray⟩ : ByteArray) = bs (zeroL n) := by
  have := Lib.repeatL_replicate (0 : UInt8) 1 n
  rw [Nat.mul_one] at this
  rw [show (ByteArray.mk #[0]).data.toList = List.replicate 1 (0 : UInt8) from rfl, this]
  rfl
theorem mrepeat_any (n : Nat) (w : World) (hn : n ≤ 100000) :
    Calls Tryz.prog 110 #[.string { data := #[0] }, .int .i64 n] w fun e w' => e = .returned (.string (bs (zeroL n))) ∧ Mod (fun _ => False) w w' := by
  refine (Tryz.strings_Repeat ⟨#[0]⟩ n w (by omega) (by show 1 * n ≤ _; omega)).mono fun e w' h => ⟨?_, Mod.of_below h.2⟩
  rw [h.1, rep_zero]
set_option maxRecDepth 100000 in
theorem msized_any (s : ByteArray) (n : Nat) (w : World) (hs : s.size ≤ 100000) (hn : n ≤ 100000) :
    Calls Tryz.prog 66 #[.string s, .int .i64 n] w fun e w' => e = .returned (.string (sizedB s n)) ∧ Mod (fun _ => False) w w' := by
  by_cases h : n ≤ s.size
  · have t1 : decide ((n : Int) ≤ (s.size : Int)) = true := by simp; omega
    have t1' : decide (n ≤ s.size) = true := by simp; omega
    have HV : Hid (sizedB s n = s.extract 0 n) := if_pos h
    have i0 : (0 : Int) ≤ (n : Int) := by omega
    have i1 : (n : Int) ≤ (s.size : Int) := by omega
    go_enter Tryz.func66, Tryz.ntmps66
    go_wp2
    go_ret
    exact ⟨by rw [HV.out]; rfl, Mod.refl _ _⟩
  · have t1 : decide ((n : Int) ≤ (s.size : Int)) = false := by simp; omega
    have t1' : decide (n ≤ s.size) = false := by simp; omega
    have HV : Hid (sizedB s n = s ++ bs (zeroL (n - s.size))) := if_neg h
    obtain ⟨k, hk⟩ : ∃ k, n - s.size = k := ⟨_, rfl⟩
    rw [hk] at HV
    have hR := mrepeat_any k w (by omega)
    rw [show (k : Int) = (n : Int) - (s.size : Int) by omega] at hR
    have hap : ¬ 9223372036854775807 < s.size + (bs (zeroL k)).size := by rw [bs_size]; simp [zeroL]; omega
    clear hk h
    go_enter Tryz.func66, Tryz.ntmps66
    go_wp2_with fail
    refine hR.mono ?_
    rintro e w1 ⟨rfl, m1⟩
    go_wp2
    go_ret
    exact ⟨by rw [HV.out]; rfl, m1⟩
end Go.Proofs.YtkcnbbjmkkaolaaGreatDoor
namespace Go.Proofs.YtkcnbbjmkkaolaaGreatDoor
open Go.RowKit

/-- a question: what is asked (a closure), does it fail, its error -/
structure Ask where
  fid : Nat
  caps : Array Value
  e : Int
  b : Bool
def firstE : List Ask → Int
  | [] => 0
  | a :: r => if a.b = true then a.e else firstE r
set_option maxHeartbeats 2000000 in
set_option maxRecDepth 100000 in
theorem pfirst_any (l : List Ask) (g c : Nat) (w : World) (hl : l.length ≤ 1000) (hcap : l.length ≤ c)
    (hcell : ∀ j (h : j < l.length), w.cell? ⟨g, j * 2, none⟩ = some (.func (.func l[j].fid) #[] l[j].caps) ∧ w.cell? ⟨g, j * 2 + 1, none⟩ = some (.int .i64 l[j].e))
    (hE : ∀ a ∈ l, ∀ args w, (callFunc a.fid args).run Tryz.prog w = .ok (.enter a.fid args) w)
    (hC : ∀ a ∈ l, ∀ U, Mod (fun _ => False) w U → Calls Tryz.prog a.fid a.caps U fun e w' => e = .returned (.bool a.b) ∧ Mod (fun _ => False) U w') :
    Calls Tryz.prog 52 #[.slice (some ⟨g, 0, none⟩) l.length c] w fun e w' => e = .returned (.int .i64 (firstE l)) ∧ Mod (fun _ => False) w w' := by
  have HX := Lib.hid hcell
  have HE := Lib.hid hE
  have HC := Lib.hid hC
  clear hcell hE hC
  go_enter Tryz.func52, Tryz.ntmps52
  go_wp2
  go_loopw [7] (fun k wr => ∃ j : Nat, j ≤ l.length ∧ k = .int .i64 j ∧ Hid (Mod (fun _ => False) w wr) ∧ Hid (firstE l = firstE (l.drop j))) (fun k _ => l.length - (intOf k).toNat)
  case atStart => exact ⟨0, Nat.zero_le _, rfl, Mod.refl _ _, rfl⟩
  case round =>
    obtain ⟨j, hj, rfl, HM, HK⟩ := hrel
    by_cases hjl : j < l.length
    · have q1 : decide ((j : Int) < (l.length : Int)) = true := by simp; omega
      have q1' : decide (j < l.length) = true := by simp; omega
      obtain ⟨x0, x1⟩ := HX.out j hjl
      have y0 := keepN HM.out x0
      have y1 := keepN HM.out x1
      have j1 : (0 : Int) ≤ (j : Int) := by omega
      have j2 : (j : Int) < (l.length : Int) := by omega
      have j3 : (l.length : Int) ≤ (c : Int) := by omega
      have hE := HE.out l[j] (List.getElem_mem hjl)
      have hC := HC.out l[j] (List.getElem_mem hjl)
      have hd : firstE (l.drop j) = if l[j].b = true then l[j].e else firstE (l.drop (j + 1)) := by rw [List.drop_eq_getElem_cons hjl]; rfl
      have HD := Lib.hid (HK.out.trans hd)
      clear x0 x1 hd HK
      generalize l[j] = a at *
      obtain ⟨fid, caps, er, bb⟩ := a
      have hC0 := Lib.hid hC
      clear hC
      have hC := hC0
      clear hC0
      go_upto_region 4 with (refine wpl_store_row rfl 95 (.tmp 4) (.tmp 10) rfl rfl wr.heap.size [.func (.func fid) #[] caps, .int .i64 er] rfl rfl 95 _ (new_at _ _) rfl (by intro u hu; simp only [List.mem_cons, List.not_mem_nil, or_false] at hu; rcases hu with rfl | rfl <;> rfl) (by kernel_rfl) ?_; intro V1 hd1 md1)
      have M1 : Hid (Mod (fun _ => False) w V1) := (HM.out.alloc _).trans' md1 fun k hk e => by have := HM.out.size; omega
      have z0 : V1.cell? ⟨wr.heap.size, 0, none⟩ = some (.func (.func fid) #[] caps) := (cell_of hd1 0).trans rfl
      have HD1 := Lib.hid hd1
      clear y0 y1 hd1 md1
      go_wp2_with fail
      refine (hC.out _ M1.out).mono ?_
      rintro e V2 ⟨rfl, m2⟩
      have z1 : V2.cell? ⟨wr.heap.size, 1, none⟩ = some (.int .i64 er) := keepN m2 ((cell_of HD1.out 1).trans rfl)
      have M2 : Hid (Mod (fun _ => False) w V2) := M1.out.trans m2
      clear hC hE z0 m2
      cases bb with
      | true =>
        have HV : Hid (firstE l = er) := HD.out.trans (if_pos rfl)
        clear HD
        go_wp2
        go_ret
        exact ⟨by rw [HV.out]; rfl, M2.out⟩
      | false =>
        have HV : Hid (firstE l = firstE (l.drop (j + 1))) := HD.out.trans (if_neg (by simp))
        clear HD
        go_wp2
        go_roundw
        case rel => exact ⟨j + 1, hjl, by go_num, M2.out, HV.out⟩
        case measure => simp [intOf]; omega
    · obtain rfl : j = l.length := by omega
      have q1 : decide ((l.length : Int) < (l.length : Int)) = false := by simp
      have q1' : decide (l.length < l.length) = false := by simp
      have HV : Hid (firstE l = 0) := by show _ = _; rw [HK.out, List.drop_length]; rfl
      go_wp2
      go_ret
      exact ⟨by rw [HV.out]; rfl, HM.out⟩
end Go.Proofs.YtkcnbbjmkkaolaaGreatDoor
namespace Go.Proofs.YtkcnbbjmkkaolaaGreatDoor
open Go.RowKit

def heldR (v : Value) : Option (DataW Value × List MemPlace) := some (.held v, [])
/-- block b is a map of at most n entries, that has f at its keys -/
def MapF {κ : Type} (P : Program) (k : TypeId) (enc : κ → Lit) (w : World) (b n : Nat) (f : κ → Option Value) : Prop :=
  ∃ D : DataW Value, w.ownsMap P k heldR b n D ∧ ∀ x, Maps.has D (enc x) = (f x).isSome ∧ ∀ z, D.atKey (enc x) z = match f x with | some v => .held v | none => z

section
variable {κ : Type} {P : Program} {k e t : TypeId} {enc : κ → Lit} {w w' : World} {b n : Nat} {f : κ → Option Value}
theorem MapF.made (w : World) (P : Program) (k : TypeId) (enc : κ → Lit) : MapF P k enc (w.alloc (.map #[] 0)) w.heap.size 0 (fun _ => none) :=
  ⟨_, World.ownsMap_made w P k heldR, fun _ => ⟨rfl, fun _ => rfl⟩⟩
theorem MapF.obj (h : MapF P k enc w b n f) : ∃ es c, w.heap[b]? = some (.map es c) := by
  obtain ⟨D, ⟨es, c, hb, _⟩, _⟩ := h
  exact ⟨es, c, hb⟩
theorem MapF.same (h : MapF P k enc w b n f) (hk : w'.heap[b]? = w.heap[b]?) : MapF P k enc w' b n f := by
  obtain ⟨D, ⟨es, c, hb, r⟩, hf⟩ := h
  exact ⟨D, ⟨es, c, hk.trans hb, r⟩, hf⟩
theorem MapF.lt (h : MapF P k enc w b n f) : b < w.heap.size := by
  obtain ⟨es, c, hb⟩ := h.obj
  exact lt_of hb
theorem MapF.mod {S : Nat → Prop} (h : MapF P k enc w b n f) (hm : Mod S w w') (hs : ¬ S b) : MapF P k enc w' b n f := h.same (hm.block b h.lt hs)
theorem MapF.congr {g : κ → Option Value} (h : MapF P k enc w b n f) (hg : ∀ x, g x = f x) : MapF P k enc w b n g := by
  obtain ⟨D, ho, hf⟩ := h
  exact ⟨D, ho, fun x => by rw [hg x]; exact hf x⟩
theorem MapF.look_ok (h : MapF P k enc w b n f) (K : Maps.Keyed P k) (ht : P.underlying t = some (.map k e)) {z : Value} (hz : (zeroValue e).run P w = .ok z w) {key : Value} {x : κ} (hkey : keyOf P k key = some (enc x)) :
    (Instr.lookup t (.map (some b)) key true).run P w = .ok (.tuple #[(f x).getD z, .bool (f x).isSome]) w := by
  obtain ⟨D, ho, hf⟩ := h
  obtain ⟨v, ps, hrun, hv⟩ := ho.look_ok K ht hz (zd := .held z) (zp := []) rfl hkey
  rw [hrun, (hf x).1]
  rw [(hf x).2] at hv
  have : v = (f x).getD z := by
    unfold heldR at hv
    cases hfx : f x with
    | none => rw [hfx] at hv; cases hv; rfl
    | some u => rw [hfx] at hv; cases hv; rfl
  rw [this]
theorem MapF.look (h : MapF P k enc w b n f) (K : Maps.Keyed P k) (ht : P.underlying t = some (.map k e)) {z : Value} (hz : (zeroValue e).run P w = .ok z w) {key : Value} {x : κ} (hkey : keyOf P k key = some (enc x)) :
    (Instr.lookup t (.map (some b)) key false).run P w = .ok ((f x).getD z) w := by
  obtain ⟨D, ho, hf⟩ := h
  obtain ⟨v, ps, hrun, hv⟩ := ho.lookup K ht hz (zd := .held z) (zp := []) rfl hkey
  rw [hrun]
  rw [(hf x).2] at hv
  have : v = (f x).getD z := by
    unfold heldR at hv
    cases hfx : f x with
    | none => rw [hfx] at hv; cases hv; rfl
    | some u => rw [hfx] at hv; cases hv; rfl
  rw [this]
theorem MapF.store [DecidableEq κ] (h : MapF P k enc w b n f) (hinj : ∀ x y, enc x = enc y → x = y) (K : Maps.Keyed P k) (ht : P.underlying t = some (.map k e)) (hn : n < maxLen) {key v : Value} {x : κ} (hkey : keyOf P k key = some (enc x)) :
    ∃ w', (Instr.mapUpdate t (.map (some b)) key v).run P w = .ok () w' ∧ MapF P k enc w' b (n + 1) (fun y => if y = x then some v else f y) ∧ Mod (· = b) w w' := by
  obtain ⟨D, ho, hf⟩ := h
  obtain ⟨w', hrun, ho', hg⟩ := ho.update K ht hn hkey (val := v) (d := .held v) (ps := []) rfl
  refine ⟨w', hrun, ⟨_, ho', fun y => ?_⟩, ⟨hg.os, hg.tape, hg.output, hg.size, fun j hj hs => hg.block j hj (fun e => hs (by injection e))⟩⟩
  by_cases hy : y = x
  · subst hy
    have hv : (fun z => if z = y then some v else f z) y = some v := if_pos rfl
    rw [hv]
    exact ⟨Maps.has_put_same ho.isMap (K.key hkey) _, fun z => Maps.atKey_put_same ho.isMap (K.key hkey) _ z⟩
  · have hv : (fun z => if z = x then some v else f z) y = f y := if_neg hy
    rw [hv, Maps.has_put_other (fun e => hy (hinj _ _ e))]
    exact ⟨(hf y).1, fun z => by rw [Maps.atKey_put_other (fun e => hy (hinj _ _ e))]; exact (hf y).2 z⟩
end
def encU64 (p : Nat) : Lit := .int .u64 p
theorem encU64_inj (x y : Nat) (h : encU64 x = encU64 y) : x = y := by
  unfold encU64 at h
  injection h with _ h
  omega
theorem key_u64 {P : Program} {k : TypeId} (hk : P.underlying k = some (.int .u64)) {p : Nat} (hp : p < 18446744073709551616) : keyOf P k (.int .u64 p) = some (encU64 p) := by
  refine Maps.keyOf_int_mk hk ?_
  show (decide ((0 : Int) ≤ p) && decide ((p : Int) ≤ 18446744073709551615)) = true
  simp
  omega
end Go.Proofs.YtkcnbbjmkkaolaaGreatDoor
namespace Go.Proofs.YtkcnbbjmkkaolaaGreatDoor
open Go.RowKit

def MapS {κ : Type} (P : Program) (k : TypeId) (enc : κ → Lit) (w : World) (b n : Nat) (f : κ → Option Value) (s : Nat) : Prop :=
  ∃ D : DataW Value, w.ownsMap P k heldR b n D ∧ (∀ x, Maps.has D (enc x) = (f x).isSome ∧ ∀ z, D.atKey (enc x) z = match f x with | some v => .held v | none => z) ∧ Maps.size D = s
section
variable {κ : Type} {P : Program} {k e t : TypeId} {enc : κ → Lit} {w w' : World} {b n s : Nat} {f : κ → Option Value}
theorem MapS.mapF (h : MapS P k enc w b n f s) : MapF P k enc w b n f := by
  obtain ⟨D, h1, h2, _⟩ := h
  exact ⟨D, h1, h2⟩
theorem MapS.made (w : World) (P : Program) (k : TypeId) (enc : κ → Lit) : MapS P k enc (w.alloc (.map #[] 0)) w.heap.size 0 (fun _ => none) 0 :=
  ⟨_, World.ownsMap_made w P k heldR, fun _ => ⟨rfl, fun _ => rfl⟩, rfl⟩
theorem MapS.lt (h : MapS P k enc w b n f s) : b < w.heap.size := h.mapF.lt
theorem MapS.same (h : MapS P k enc w b n f s) (hk : w'.heap[b]? = w.heap[b]?) : MapS P k enc w' b n f s := by
  obtain ⟨D, ⟨es, c, hb, r⟩, hf⟩ := h
  exact ⟨D, ⟨es, c, hk.trans hb, r⟩, hf⟩
theorem MapS.mod {S : Nat → Prop} (h : MapS P k enc w b n f s) (hm : Mod S w w') (hs : ¬ S b) : MapS P k enc w' b n f s := h.same (hm.block b h.lt hs)
theorem MapS.congr {g : κ → Option Value} {s' : Nat} (h : MapS P k enc w b n f s) (hg : ∀ x, g x = f x) (hs : s' = s) : MapS P k enc w b n g s' := by
  obtain ⟨D, ho, hf, hz⟩ := h
  exact ⟨D, ho, fun x => by rw [hg x]; exact hf x, by rw [hs]; exact hz⟩
theorem MapS.len (h : MapS P k enc w b n f s) (ht : P.underlying t = some (.map k e)) (ty : TypeId) : (Builtin.len_ #[t] ty #[.map (some b)]).run P w = .ok (.int .i64 s) w := by
  obtain ⟨D, ho, _, hz⟩ := h
  rw [ho.len ht ty, hz]
theorem MapS.le (h : MapS P k enc w b n f s) : s ≤ n := by
  obtain ⟨D, ho, _, hz⟩ := h
  rw [← hz]; exact ho.size_le
theorem mod_turned {w w' : World} {b : Nat} (h : w.mapTurned w' b) : Mod (· = b) w w' := by
  have hg := h.grown
  exact ⟨hg.os, hg.tape, hg.output, hg.size, fun j hj hs => hg.block j hj (fun e => hs (by injection e))⟩
theorem MapS.store [DecidableEq κ] (h : MapS P k enc w b n f s) (hinj : ∀ x y, enc x = enc y → x = y) (K : Maps.Keyed P k) (ht : P.underlying t = some (.map k e)) (hn : n < maxLen) {key v : Value} {x : κ} (hkey : keyOf P k key = some (enc x)) :
    ∃ w', (Instr.mapUpdate t (.map (some b)) key v).run P w = .ok () w' ∧ MapS P k enc w' b (n + 1) (fun y => if y = x then some v else f y) (if (f x).isSome = true then s else s + 1) ∧ Mod (· = b) w w' := by
  obtain ⟨D, ho, hf, hz⟩ := h
  obtain ⟨w', hrun, ho', hg⟩ := ho.store K ht hn hkey (val := v) (d := .held v) (ps := []) rfl
  refine ⟨w', hrun, ⟨_, ho', fun y => ?_, ?_⟩, mod_turned hg⟩
  · by_cases hy : y = x
    · subst hy
      have hv : (fun z => if z = y then some v else f z) y = some v := if_pos rfl
      rw [hv]
      exact ⟨Maps.has_put_same ho.isMap (K.key hkey) _, fun z => Maps.atKey_put_same ho.isMap (K.key hkey) _ z⟩
    · have hv : (fun z => if z = x then some v else f z) y = f y := if_neg hy
      rw [hv, Maps.has_put_other (fun e => hy (hinj _ _ e))]
      exact ⟨(hf y).1, fun z => by rw [Maps.atKey_put_other (fun e => hy (hinj _ _ e))]; exact (hf y).2 z⟩
  · rw [Maps.size_put (ho.tidy K), (hf x).1, hz]
theorem MapS.drop [DecidableEq κ] (h : MapS P k enc w b n f s) (hinj : ∀ x y, enc x = enc y → x = y) (K : Maps.Keyed P k) (ht : P.underlying t = some (.map k e)) {key : Value} {x : κ} (hkey : keyOf P k key = some (enc x)) (ty : TypeId) :
    ∃ w', (Builtin.delete_ #[t, k] ty #[.map (some b), key]).run P w = .ok (.tuple #[]) w' ∧ MapS P k enc w' b n (fun y => if y = x then none else f y) (if (f x).isSome = true then s - 1 else s) ∧ Mod (· = b) w w' := by
  obtain ⟨D, ho, hf, hz⟩ := h
  obtain ⟨w', hrun, ho', hg⟩ := ho.drop K ht hkey ty
  refine ⟨w', hrun, ⟨_, ho', fun y => ?_, ?_⟩, mod_turned hg⟩
  · by_cases hy : y = x
    · subst hy
      have hv : (fun z => if z = y then none else f z) y = none := if_pos rfl
      rw [hv]
      exact ⟨Maps.has_del_same, fun z => Maps.atKey_del_same z⟩
    · have hv : (fun z => if z = x then none else f z) y = f y := if_neg hy
      rw [hv, Maps.has_del_other (fun e => hy (hinj _ _ e))]
      exact ⟨(hf y).1, fun z => by rw [Maps.atKey_del_other (fun e => hy (hinj _ _ e))]; exact (hf y).2 z⟩
  · have := Maps.size_del (ho.tidy K) (k := enc x)
    rw [(hf x).1, hz] at this
    split
    · rename_i h; rw [if_pos h] at this; omega
    · rename_i h; rw [if_neg h] at this; omega
end
end Go.Proofs.YtkcnbbjmkkaolaaGreatDoor
