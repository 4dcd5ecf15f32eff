/- The document's tree: Open. -/
import Derived.Test.YtkcnbbjmkkaolaaGreatDoorQG02
import Derived.Test.YtkcnbbjmkkaolaaGreatDoorQG00
set_option linter.unusedVariables false
set_option linter.unusedSimpArgs false
namespace Go.Proofs.YtkcnbbjmkkaolaaGreatDoor
open Go.RowKit

theorem idx_set {L : List Nd} {p i : Nat} {n n' : Nd} (hi : idxP L p = some i) (hn : L[i]? = some n) (hp : n'.path = n.path) : idxP (L.set i n') p = some i := by
  obtain ⟨m, hm, hmp, _, hil⟩ := idx_some hi
  rw [hn] at hm; injection hm with hm; subst hm
  unfold idxP at *
  rw [List.findIdx?_eq_some_iff_getElem] at *
  obtain ⟨h1, h2, h3⟩ := hi
  refine ⟨by rw [List.length_set]; exact h1, ?_, fun j hj => ?_⟩
  · rw [List.getElem_set_self]; rw [hp]; simpa using hmp
  · rw [List.getElem_set_ne (by omega)]; exact h3 j hj
theorem stat_upd {T : Tr} (hw : T.L.Pairwise fun a b => a.path < b.path) {p i : Nat} {n : Nd} {f : Nd → Nd} (hi : idxP T.L p = some i) (hn : T.L[i]? = some n) : ({ T with L := updN T.L p f } : Tr) = { T with L := T.L.set i (f n) } := by
  rw [upd_set hw f hi hn]
theorem openE_x {q16 q64 : Nat} {mA m2 mP X : Bool} (hX : X = (!mA || ((q16 != 0) && !m2) || ((q64 != 0) && !mP))) : (if mA = false ∨ (q16 ≠ 0 ∧ m2 = false) then (182 : Int) else if q64 ≠ 0 ∧ mP = false then 182 else 0) = if X = true then 182 else 0 := by
  subst hX
  cases mA <;> cases m2 <;> cases mP <;> by_cases h1 : q16 = 0 <;> by_cases h2 : q64 = 0 <;> simp [h1, h2]
/-- the result's cell, still nought -/
def ZAt (w : World) (k : Nat) : Prop := w.heap[k]? = some (qiO Qi.zero)
theorem ZAt.mod3 {w w' : World} {k : Nat} (h : ZAt w k) (hm : Mod (fun _ => False) w w') : ZAt w' k := (hm.block _ (lt_of h) (fun x => x)).trans h
set_option maxHeartbeats 8000000 in
set_option maxRecDepth 100000 in
theorem rOpen_any (F : Nat → Prop) (b g cap : Nat) (T : Tr) (vks : Nat → Value) (p m : Nat) (who : ByteArray) (now : Nat) (w : World) (h : RTreeP w F b T g cap vks) (hwf : WF T) (hm : m < 256) :
    Calls Tryz.prog 39 #[.pointer (some ⟨b, 0, none⟩), .int .u64 p, .int .u8 m, .string who, .int .u32 now] w fun e w' => e = .returned (.tuple #[.agg (qiC (openT T p m who now).2.1).toArray, .int .i64 (openT T p m who now).2.2]) ∧ RTreeP w' F b (openT T p m who now).1 g cap vks ∧ Mod F w w' := by
  have hl := hwf.len
  obtain ⟨V, hV⟩ : ∃ V, w.alloc (.cells #[.int .u8 0, .int .u32 0, .int .u64 0] 35) = V := ⟨_, rfl⟩
  have hv : V.heap[w.heap.size]? = some (qiO Qi.zero) := by subst hV; exact new_at _ _
  have m0 : Mod (fun _ => False) w V := by subst hV; exact (Mod.refl _ w).alloc _
  have hR := h.rv
  have hA := at_any b g cap T vks p V (hR.mod m0) hl
  have HZ := Lib.hid hv
  have M0 := Lib.hid m0
  have HS : Hid (openT T p m who now = match look T.L p with | none => (T, Qi.zero, 180) | some n => if openE T n m who ≠ 0 then (T, Qi.zero, openE T n m who) else if m &&& 16 ≠ 0 ∧ n.data.size ≠ 0 then ({ T with L := updN T.L p fun n => Nd.touch { n with data := ByteArray.empty } who now }, qidOf (Nd.touch { n with data := ByteArray.empty } who now), 0) else (T, qidOf n, 0)) := rfl
  have c0w := hR.c0
  have hcap := hR.cap
  have H := Lib.hid h
  have HR := Lib.hid hR
  have c0 := keepN m0 c0w
  clear h hv m0 hR
  cases hlk : look T.L p with
  | none =>
    rw [atI_none hlk] at hA
    have HV : Hid (openT T p m who now = (T, Qi.zero, 180)) := by show _ = _; rw [HS.out, hlk]
    clear HS hlk
    go_enter Tryz.func39, Tryz.ntmps39
    go_wp2_with fail
    refine hA.mono ?_
    rintro e w1 ⟨rfl, rfl⟩
    clear hA hV
    go_upto_region 3 with (fail)
    refine wp_region_lit ?_
    refine wpList_plain rfl fun K hK => ?_
    go_simp
    refine hK _ _ ?_
    clear hK K
    refine wpl_store_row rfl 35 (.tmp 10) (.tmp 19) rfl rfl w.heap.size (qiC Qi.zero) rfl rfl 35 _ HZ.out rfl (qi_one _) (by kernel_rfl) ?_
    intro V9 hv9 mv9
    refine wpList_plain rfl fun K hK => ?_
    go_simp
    refine hK _ _ ?_
    clear hK K
    refine wpList_nil ?_
    have MV : Hid (Mod (fun _ => False) w V9) := (M0.out).trans' mv9 fun k hk e => by omega
    go_wp2
    refine bodyPost_ret (results_cell2 rfl _ _ V9 w.heap.size (qiC Qi.zero) _ rfl (qi_rng hv9) Tryz.underlying35 rfl (by kernel_rfl)) rfl ⟨by rw [HV.out]; rfl, by rw [HV.out]; exact H.out.mod MV.out (fun _ x => x.elim), MV.out.mono (fun _ _ x => x.elim)⟩
  | some n =>
    obtain ⟨i, hi, hn, hil⟩ := look_get hlk
    rw [atI_some hi] at hA
    have t1 : decide ((i : Int) < 0) = false := by simp
    have HS2 : Hid (openT T p m who now = if openE T n m who ≠ 0 then (T, Qi.zero, openE T n m who) else if m &&& 16 ≠ 0 ∧ n.data.size ≠ 0 then ({ T with L := updN T.L p fun n => Nd.touch { n with data := ByteArray.empty } who now }, qidOf (Nd.touch { n with data := ByteArray.empty } who now), 0) else (T, qidOf n, 0)) := by show _ = _; rw [HS.out, hlk]
    have hno := hwf.ok n (List.mem_of_getElem? hn)
    have e1w : w.cell? ⟨g, i * 13 + 1, none⟩ = some (.bool n.dir) := HR.out.el i n hn 1 _ rfl
    have e1 := keepN M0.out e1w
    have i1 : (0 : Int) ≤ (i : Int) := by omega
    have i2 : (i : Int) < (T.L.length : Int) := by omega
    have i3 : (T.L.length : Int) ≤ (cap : Int) := by omega
    have hln := ndC_len (n, vks i)
    have hMo := rmode_any m V hm
    clear HS
    have HE : Hid (openE T n m who = if modeB m = false then 186 else if n.dir = true ∧ m ≠ 0 then 181 else if mayB n who (needOf m) = false ∨ (m &&& 16 ≠ 0 ∧ mayB n who 2 = false) then 182 else if m &&& 64 ≠ 0 ∧ mayB (parOf T.L n) who 2 = false then 182 else 0) := rfl
    go_enter Tryz.func39, Tryz.ntmps39
    go_wp2_with fail
    refine hA.mono ?_
    rintro e w1 ⟨rfl, rfl⟩
    clear hA hV
    go_wp2_with fail
    refine hMo.mono ?_
    rintro e w1 ⟨rfl, rfl⟩
    clear hMo
    cases hmo : modeB m with
    | false =>
      have he : openE T n m who = 186 := HE.out.trans (if_pos hmo)
      have HV : Hid (openT T p m who now = (T, Qi.zero, 186)) := by show _ = _; rw [HS2.out, he]; rfl
      clear HS2 HE he hmo
      go_upto_region 5 with (fail)
      refine wp_region_lit ?_
      refine wpList_plain rfl fun K hK => ?_
      go_simp
      refine hK _ _ ?_
      clear hK K
      refine wpl_store_row rfl 35 (.tmp 10) (.tmp 23) rfl rfl w.heap.size (qiC Qi.zero) rfl rfl 35 _ HZ.out rfl (qi_one _) (by kernel_rfl) ?_
      intro V9 hv9 mv9
      refine wpList_plain rfl fun K hK => ?_
      go_simp
      refine hK _ _ ?_
      clear hK K
      refine wpList_nil ?_
      have MV : Hid (Mod (fun _ => False) w V9) := (M0.out).trans' mv9 fun k hk e => by omega
      go_wp2
      refine bodyPost_ret (results_cell2 rfl _ _ V9 w.heap.size (qiC Qi.zero) _ rfl (qi_rng hv9) Tryz.underlying35 rfl (by kernel_rfl)) rfl ⟨by rw [HV.out]; rfl, by rw [HV.out]; exact H.out.mod MV.out (fun _ x => x.elim), MV.out.mono (fun _ _ x => x.elim)⟩
    | true =>
    have HE2 := Lib.hid (HE.out.trans (if_neg (by rw [hmo]; simp)))
    clear HE hmo
    by_cases hdm : n.dir = true ∧ m ≠ 0
    · rw [hdm.1] at e1
      have t2 : ((m : Int) != 0) = true := by simp; exact hdm.2
      have he : openE T n m who = 181 := HE2.out.trans (if_pos hdm)
      have HV : Hid (openT T p m who now = (T, Qi.zero, 181)) := by show _ = _; rw [HS2.out, he]; rfl
      clear HS2 HE2 he hdm e1w
      go_upto_region 7 with (fail)
      refine wp_region_lit ?_
      refine wpList_plain rfl fun K hK => ?_
      go_simp
      refine hK _ _ ?_
      clear hK K
      refine wpl_store_row rfl 35 (.tmp 10) (.tmp 36) rfl rfl w.heap.size (qiC Qi.zero) rfl rfl 35 _ HZ.out rfl (qi_one _) (by kernel_rfl) ?_
      intro V9 hv9 mv9
      refine wpList_plain rfl fun K hK => ?_
      go_simp
      refine hK _ _ ?_
      clear hK K
      refine wpList_nil ?_
      have MV : Hid (Mod (fun _ => False) w V9) := (M0.out).trans' mv9 fun k hk e => by omega
      go_wp2
      refine bodyPost_ret (results_cell2 rfl _ _ V9 w.heap.size (qiC Qi.zero) _ rfl (qi_rng hv9) Tryz.underlying35 rfl (by kernel_rfl)) rfl ⟨by rw [HV.out]; rfl, by rw [HV.out]; exact H.out.mod MV.out (fun _ x => x.elim), MV.out.mono (fun _ _ x => x.elim)⟩
    have HE3 := Lib.hid (HE2.out.trans (if_neg hdm))
    clear HE2
    have z16 : bits .and .u8 (m : Int) 16 = ((m &&& 16 : Nat) : Int) := u8_and_nat m 16 hm (by decide)
    have z64 : bits .and .u8 (m : Int) 64 = ((m &&& 64 : Nat) : Int) := u8_and_nat m 64 hm (by decide)
    obtain ⟨q16, h16⟩ : ∃ q, m &&& 16 = q := ⟨_, rfl⟩
    obtain ⟨q64, h64⟩ : ∃ q, m &&& 64 = q := ⟨_, rfl⟩
    rw [h16] at z16 HE3 HS2
    rw [h64] at z64 HE3
    obtain ⟨d, hd⟩ := hwf.par n (List.mem_of_getElem? hn)
    have hpd : parOf T.L n = d := by unfold parOf; rw [hd]; rfl
    rw [hpd] at HE3
    obtain ⟨j, hj, hjn, hjl⟩ := look_get hd
    have hdo := hwf.ok d (List.mem_of_getElem? hjn)
    have e9 : w.cell? ⟨g, i * 13 + 9, none⟩ = some (.int .u64 n.parent) := HR.out.el i n hn 9 _ rfl
    have hA2 := fun U (hU : Mod (fun _ => False) w U) => at_any b g cap T vks n.parent U (HR.out.mod hU) hl
    rw [atI_some hj] at hA2
    have hNe := fun U => rneed_any m U hm
    have hnb : needOf m < 8 := by unfold needOf; split <;> (try split) <;> (try split) <;> decide
    have hMa := fun U => rmay_any n (vks i) who (needOf m) U hnb hno.perm
    have hM2 := fun U => rmay_any n (vks i) who 2 U (by decide) hno.perm
    have hMp := fun U => rmay_any d (vks j) who 2 U (by decide) hdo.perm
    have hrow : ∀ U, Mod (fun _ => False) w U → U.rangeAt g (i * 13) (ndC (n, vks i)) := fun U hU => (HR.out.mod hU).elem hn
    have hrowd : ∀ U, Mod (fun _ => False) w U → U.rangeAt g (j * 13) (ndC (d, vks j)) := fun U hU => (HR.out.mod hU).elem hjn
    have hdl := ndC_len (d, vks j)
    have j1 : (0 : Int) ≤ (j : Int) := by omega
    have j2 : (j : Int) < (T.L.length : Int) := by omega
    generalize mayB n who (needOf m) = mA at *
    generalize mayB n who 2 = m2 at *
    generalize mayB d who 2 = mP at *
    have HdM := Lib.hid hdm
    clear hd hpd hj hdm
    obtain ⟨X, HX⟩ : ∃ X, Hid (X = (!mA || ((q16 != 0) && !m2) || ((q64 != 0) && !mP))) := ⟨_, rfl⟩
    have HE4 := Lib.hid (HE3.out.trans (openE_x HX.out))
    have x16 : ((q16 : Int) != 0) = (q16 != 0) := by cases q16 <;> rfl
    have x64 : ((q64 : Int) != 0) = (q64 != 0) := by cases q64 <;> rfl
    have HC16 : Hid (∃ c, (q16 != 0) = c) := ⟨_, rfl⟩
    obtain ⟨c16, hc16⟩ : ∃ c, (q16 != 0) = c := ⟨_, rfl⟩
    obtain ⟨c64, hc64⟩ : ∃ c, (q64 != 0) = c := ⟨_, rfl⟩
    rw [hc16] at x16 HX
    rw [hc64] at x64 HX
    have HC := Lib.hid hc16
    clear HE3 HC16 h16 h64 hc16 hc64
    cases hdir : n.dir with
    | false =>
      rw [hdir] at e1
      go_upto_region 9 with (fail)
      have hz4 : ZAt V.drew w.heap.size := HZ.out
      go_cut [92] from 40 to 91 (fun v wc => v = .bool X ∧ ZAt wc w.heap.size ∧ Hid (Mod (fun _ => False) w wc))
      case first =>
        refine wp_region_held_drew (S := fun w' => Hid (Mod (fun _ => False) w w')) (by kernel_rfl) (Lib.hid M0.out.drew) (fun hHeld => ?_)
        refine hT 0 rfl (fun _ _ => by go_simp; all_goals with_reducible rfl) ?_
        try simp only [gA, gB, gC, Act.put, sA, sB, sC]
        refine hT 1 rfl (fun _ _ => by go_simp; all_goals with_reducible rfl) ?_
        try simp only [gA, gB, gC, Act.put, sA, sB, sC]
        refine hT 2 rfl (fun _ _ => by go_simp; all_goals with_reducible rfl) ?_
        try simp only [gA, gB, gC, Act.put, sA, sB, sC]
        refine hT 3 rfl (fun wH hSw => by have cH := keepN hSw.out c0w; clear hSw; go_simp; all_goals with_reducible rfl) ?_
        try simp only [gA, gB, gC, Act.put, sA, sB, sC]
        refine hT 4 rfl (fun _ _ => by go_simp; all_goals with_reducible rfl) ?_
        try simp only [gA, gB, gC, Act.put, sA, sB, sC]
        refine hT 5 rfl (fun _ _ => by go_simp; all_goals with_reducible rfl) ?_
        try simp only [gA, gB, gC, Act.put, sA, sB, sC]
        refine hTy 6 rfl (by kernel_rfl) (fun _ _ _ h => h) (by assumption) (yieldsIf_load_mid (by rfl) 83 (.tmp 45) rfl g (i * 13) rfl (ndC (n, vks i)) _ (fun wH hSw => hrow wH hSw.out) Tryz.underlying83 rfl (by kernel_rfl)) ?_
        try simp only [gA, gB, gC, Act.put, sA, sB, sC]
        refine hT 7 rfl (fun _ _ => by go_simp; all_goals with_reducible rfl) ?_
        try simp only [gA, gB, gC, Act.put, sA, sB, sC]
        refine hT 8 rfl (fun _ _ => by go_simp; all_goals with_reducible rfl) ?_
        try simp only [gA, gB, gC, Act.put, sA, sB, sC]
        refine hR1 9 rfl fun K hK => ?_
        go_simp
        refine (hNe _).mono ?_
        rintro e w4 ⟨rfl, rfl⟩
        refine hK.out _ _ (Lib.hid (hHeld.out)) ?_; clear hK K hHeld; intro hHeld
        try simp only [gA, gB, gC, Act.put, sA, sB, sC]
        refine hR1 10 rfl fun K hK => ?_
        go_simp
        refine (hMa _).mono ?_
        rintro e w4 ⟨rfl, m4⟩
        have hz4 := hz4.mod3 m4
        refine hK.out _ _ (Lib.hid (hHeld.out.trans m4)) ?_; clear hK K hHeld; intro hHeld
        try simp only [gA, gB, gC, Act.put, sA, sB, sC]
        refine hT 11 rfl (fun _ _ => by go_simp; all_goals with_reducible rfl) ?_
        try simp only [gA, gB, gC, Act.put, sA, sB, sC]
        refine hT 12 rfl (fun _ _ => by go_simp; all_goals with_reducible rfl) ?_
        try simp only [gA, gB, gC, Act.put, sA, sB, sC]
        cases mA with
        | false =>
          refine hSk 13 rfl ?_
          try simp only [gA, gB, gC, Act.put, sA, sB, sC]
          refine hSk 14 rfl ?_
          try simp only [gA, gB, gC, Act.put, sA, sB, sC]
          refine hSk 15 rfl ?_
          try simp only [gA, gB, gC, Act.put, sA, sB, sC]
          refine hSk 16 rfl ?_
          try simp only [gA, gB, gC, Act.put, sA, sB, sC]
          refine hSk 17 rfl ?_
          try simp only [gA, gB, gC, Act.put, sA, sB, sC]
          refine hSk 18 rfl ?_
          try simp only [gA, gB, gC, Act.put, sA, sB, sC]
          refine hSk 19 rfl ?_
          try simp only [gA, gB, gC, Act.put, sA, sB, sC]
          refine hSk 20 rfl ?_
          try simp only [gA, gB, gC, Act.put, sA, sB, sC]
          refine hSk 21 rfl ?_
          try simp only [gA, gB, gC, Act.put, sA, sB, sC]
          refine hSk 22 rfl ?_
          try simp only [gA, gB, gC, Act.put, sA, sB, sC]
          refine hSk 23 rfl ?_
          try simp only [gA, gB, gC, Act.put, sA, sB, sC]
          refine hSk 24 rfl ?_
          try simp only [gA, gB, gC, Act.put, sA, sB, sC]
          refine hSk 25 rfl ?_
          try simp only [gA, gB, gC, Act.put, sA, sB, sC]
          refine hT 26 rfl (fun _ _ => by go_simp; all_goals with_reducible rfl) ?_
          try simp only [gA, gB, gC, Act.put, sA, sB, sC]
          refine hT 27 rfl (fun _ _ => by go_simp; all_goals with_reducible rfl) ?_
          try simp only [gA, gB, gC, Act.put, sA, sB, sC]
          refine hSk 28 rfl ?_
          try simp only [gA, gB, gC, Act.put, sA, sB, sC]
          refine hSk 29 rfl ?_
          try simp only [gA, gB, gC, Act.put, sA, sB, sC]
          refine hSk 30 rfl ?_
          try simp only [gA, gB, gC, Act.put, sA, sB, sC]
          refine hSk 31 rfl ?_
          try simp only [gA, gB, gC, Act.put, sA, sB, sC]
          refine hSk 32 rfl ?_
          try simp only [gA, gB, gC, Act.put, sA, sB, sC]
          refine hSk 33 rfl ?_
          try simp only [gA, gB, gC, Act.put, sA, sB, sC]
          refine hSk 34 rfl ?_
          try simp only [gA, gB, gC, Act.put, sA, sB, sC]
          refine hSk 35 rfl ?_
          try simp only [gA, gB, gC, Act.put, sA, sB, sC]
          refine hSk 36 rfl ?_
          try simp only [gA, gB, gC, Act.put, sA, sB, sC]
          refine hSk 37 rfl ?_
          try simp only [gA, gB, gC, Act.put, sA, sB, sC]
          refine hSk 38 rfl ?_
          try simp only [gA, gB, gC, Act.put, sA, sB, sC]
          refine hSk 39 rfl ?_
          try simp only [gA, gB, gC, Act.put, sA, sB, sC]
          refine hSk 40 rfl ?_
          try simp only [gA, gB, gC, Act.put, sA, sB, sC]
          refine hSk 41 rfl ?_
          try simp only [gA, gB, gC, Act.put, sA, sB, sC]
          refine hSk 42 rfl ?_
          try simp only [gA, gB, gC, Act.put, sA, sB, sC]
          refine hSk 43 rfl ?_
          try simp only [gA, gB, gC, Act.put, sA, sB, sC]
          refine hSk 44 rfl ?_
          try simp only [gA, gB, gC, Act.put, sA, sB, sC]
          refine hSk 45 rfl ?_
          try simp only [gA, gB, gC, Act.put, sA, sB, sC]
          refine hSk 46 rfl ?_
          try simp only [gA, gB, gC, Act.put, sA, sB, sC]
          refine hSk 47 rfl ?_
          try simp only [gA, gB, gC, Act.put, sA, sB, sC]
          refine hSk 48 rfl ?_
          try simp only [gA, gB, gC, Act.put, sA, sB, sC]
          refine hSk 49 rfl ?_
          try simp only [gA, gB, gC, Act.put, sA, sB, sC]
          refine hSk 50 rfl ?_
          try simp only [gA, gB, gC, Act.put, sA, sB, sC]
          refine hSk 51 rfl ?_
          try simp only [gA, gB, gC, Act.put, sA, sB, sC]
          refine hT 52 rfl (fun _ _ => by go_simp; all_goals with_reducible rfl) ?_
          try simp only [gA, gB, gC, Act.put, sA, sB, sC]
          refine wpAnyH_done (by kernel_rfl) ?_ _
          go_wp2
          go_meet
          case rel => exact ⟨by rw [HX.out]; rfl, hz4, hHeld.out⟩
        | true =>
          refine hT 13 rfl (fun _ _ => by go_simp; all_goals with_reducible rfl) ?_
          try simp only [gA, gB, gC, Act.put, sA, sB, sC]
          refine hT 14 rfl (fun _ _ => by go_simp; all_goals with_reducible rfl) ?_
          try simp only [gA, gB, gC, Act.put, sA, sB, sC]
          cases c16 with
          | false =>
            refine hSk 15 rfl ?_
            try simp only [gA, gB, gC, Act.put, sA, sB, sC]
            refine hSk 16 rfl ?_
            try simp only [gA, gB, gC, Act.put, sA, sB, sC]
            refine hSk 17 rfl ?_
            try simp only [gA, gB, gC, Act.put, sA, sB, sC]
            refine hSk 18 rfl ?_
            try simp only [gA, gB, gC, Act.put, sA, sB, sC]
            refine hSk 19 rfl ?_
            try simp only [gA, gB, gC, Act.put, sA, sB, sC]
            refine hSk 20 rfl ?_
            try simp only [gA, gB, gC, Act.put, sA, sB, sC]
            refine hSk 21 rfl ?_
            try simp only [gA, gB, gC, Act.put, sA, sB, sC]
            refine hSk 22 rfl ?_
            try simp only [gA, gB, gC, Act.put, sA, sB, sC]
            refine hSk 23 rfl ?_
            try simp only [gA, gB, gC, Act.put, sA, sB, sC]
            refine hSk 24 rfl ?_
            try simp only [gA, gB, gC, Act.put, sA, sB, sC]
            refine hT 25 rfl (fun _ _ => by go_simp; all_goals with_reducible rfl) ?_
            try simp only [gA, gB, gC, Act.put, sA, sB, sC]
            refine hT 26 rfl (fun _ _ => by go_simp; all_goals with_reducible rfl) ?_
            try simp only [gA, gB, gC, Act.put, sA, sB, sC]
            refine hT 27 rfl (fun _ _ => by go_simp; all_goals with_reducible rfl) ?_
            try simp only [gA, gB, gC, Act.put, sA, sB, sC]
            refine hT 28 rfl (fun _ _ => by go_simp; all_goals with_reducible rfl) ?_
            try simp only [gA, gB, gC, Act.put, sA, sB, sC]
            refine hT 29 rfl (fun _ _ => by go_simp; all_goals with_reducible rfl) ?_
            try simp only [gA, gB, gC, Act.put, sA, sB, sC]
            refine hT 30 rfl (fun _ _ => by go_simp; all_goals with_reducible rfl) ?_
            try simp only [gA, gB, gC, Act.put, sA, sB, sC]
            refine hT 31 rfl (fun _ _ => by go_simp; all_goals with_reducible rfl) ?_
            try simp only [gA, gB, gC, Act.put, sA, sB, sC]
            cases c64 with
            | false =>
              refine hSk 32 rfl ?_
              try simp only [gA, gB, gC, Act.put, sA, sB, sC]
              refine hSk 33 rfl ?_
              try simp only [gA, gB, gC, Act.put, sA, sB, sC]
              refine hSk 34 rfl ?_
              try simp only [gA, gB, gC, Act.put, sA, sB, sC]
              refine hSk 35 rfl ?_
              try simp only [gA, gB, gC, Act.put, sA, sB, sC]
              refine hSk 36 rfl ?_
              try simp only [gA, gB, gC, Act.put, sA, sB, sC]
              refine hSk 37 rfl ?_
              try simp only [gA, gB, gC, Act.put, sA, sB, sC]
              refine hSk 38 rfl ?_
              try simp only [gA, gB, gC, Act.put, sA, sB, sC]
              refine hSk 39 rfl ?_
              try simp only [gA, gB, gC, Act.put, sA, sB, sC]
              refine hSk 40 rfl ?_
              try simp only [gA, gB, gC, Act.put, sA, sB, sC]
              refine hSk 41 rfl ?_
              try simp only [gA, gB, gC, Act.put, sA, sB, sC]
              refine hSk 42 rfl ?_
              try simp only [gA, gB, gC, Act.put, sA, sB, sC]
              refine hSk 43 rfl ?_
              try simp only [gA, gB, gC, Act.put, sA, sB, sC]
              refine hSk 44 rfl ?_
              try simp only [gA, gB, gC, Act.put, sA, sB, sC]
              refine hSk 45 rfl ?_
              try simp only [gA, gB, gC, Act.put, sA, sB, sC]
              refine hSk 46 rfl ?_
              try simp only [gA, gB, gC, Act.put, sA, sB, sC]
              refine hSk 47 rfl ?_
              try simp only [gA, gB, gC, Act.put, sA, sB, sC]
              refine hSk 48 rfl ?_
              try simp only [gA, gB, gC, Act.put, sA, sB, sC]
              refine hSk 49 rfl ?_
              try simp only [gA, gB, gC, Act.put, sA, sB, sC]
              refine hSk 50 rfl ?_
              try simp only [gA, gB, gC, Act.put, sA, sB, sC]
              refine hT 51 rfl (fun _ _ => by go_simp; all_goals with_reducible rfl) ?_
              try simp only [gA, gB, gC, Act.put, sA, sB, sC]
              refine hT 52 rfl (fun _ _ => by go_simp; all_goals with_reducible rfl) ?_
              try simp only [gA, gB, gC, Act.put, sA, sB, sC]
              refine wpAnyH_done (by kernel_rfl) ?_ _
              go_wp2
              go_meet
              case rel => exact ⟨by rw [HX.out]; rfl, hz4, hHeld.out⟩
            | true =>
              refine hT 32 rfl (fun _ _ => by go_simp; all_goals with_reducible rfl) ?_
              try simp only [gA, gB, gC, Act.put, sA, sB, sC]
              refine hT 33 rfl (fun _ _ => by go_simp; all_goals with_reducible rfl) ?_
              try simp only [gA, gB, gC, Act.put, sA, sB, sC]
              refine hT 34 rfl (fun _ _ => by go_simp; all_goals with_reducible rfl) ?_
              try simp only [gA, gB, gC, Act.put, sA, sB, sC]
              refine hT 35 rfl (fun wH hSw => by have cH := keepN hSw.out c0w; clear hSw; go_simp; all_goals with_reducible rfl) ?_
              try simp only [gA, gB, gC, Act.put, sA, sB, sC]
              refine hT 36 rfl (fun _ _ => by go_simp; all_goals with_reducible rfl) ?_
              try simp only [gA, gB, gC, Act.put, sA, sB, sC]
              refine hT 37 rfl (fun _ _ => by go_simp; all_goals with_reducible rfl) ?_
              try simp only [gA, gB, gC, Act.put, sA, sB, sC]
              refine hT 38 rfl (fun _ _ => by go_simp; all_goals with_reducible rfl) ?_
              try simp only [gA, gB, gC, Act.put, sA, sB, sC]
              refine hT 39 rfl (fun _ _ => by go_simp; all_goals with_reducible rfl) ?_
              try simp only [gA, gB, gC, Act.put, sA, sB, sC]
              refine hT 40 rfl (fun wH hSw => by have cH := keepN hSw.out c0w; clear hSw; go_simp; all_goals with_reducible rfl) ?_
              try simp only [gA, gB, gC, Act.put, sA, sB, sC]
              refine hT 41 rfl (fun _ _ => by go_simp; all_goals with_reducible rfl) ?_
              try simp only [gA, gB, gC, Act.put, sA, sB, sC]
              refine hT 42 rfl (fun _ _ => by go_simp; all_goals with_reducible rfl) ?_
              try simp only [gA, gB, gC, Act.put, sA, sB, sC]
              refine hT 43 rfl (fun _ _ => by go_simp; all_goals with_reducible rfl) ?_
              try simp only [gA, gB, gC, Act.put, sA, sB, sC]
              refine hT 44 rfl (fun wH hSw => by have cH := keepN hSw.out e9; clear hSw; go_simp; all_goals with_reducible rfl) ?_
              try simp only [gA, gB, gC, Act.put, sA, sB, sC]
              refine hT 48 rfl (fun _ _ => by go_simp; all_goals with_reducible rfl) ?_
              try simp only [gA, gB, gC, Act.put, sA, sB, sC]
              refine hR1 45 rfl fun K hK => ?_
              go_simp
              refine (hA2 _ hHeld.out).mono ?_
              rintro e w6 ⟨rfl, rfl⟩
              refine hK.out _ _ (Lib.hid (hHeld.out)) ?_; clear hK K hHeld; intro hHeld
              try simp only [gA, gB, gC, Act.put, sA, sB, sC]
              refine hT 46 rfl (fun _ _ => by go_simp; all_goals with_reducible rfl) ?_
              try simp only [gA, gB, gC, Act.put, sA, sB, sC]
              refine hTy 47 rfl (by kernel_rfl) (fun _ _ _ h => h) (by assumption) (yieldsIf_load_mid (by rfl) 83 (.tmp 86) rfl g (j * 13) rfl (ndC (d, vks j)) _ (fun wH hSw => hrowd wH hSw.out) Tryz.underlying83 rfl (by kernel_rfl)) ?_
              try simp only [gA, gB, gC, Act.put, sA, sB, sC]
              refine hR1 49 rfl fun K hK => ?_
              go_simp
              refine (hMp _).mono ?_
              rintro e w7 ⟨rfl, m7⟩
              have hz4 := hz4.mod3 m7
              refine hK.out _ _ (Lib.hid (hHeld.out.trans m7)) ?_; clear hK K hHeld; intro hHeld
              try simp only [gA, gB, gC, Act.put, sA, sB, sC]
              refine hT 50 rfl (fun _ _ => by go_simp; all_goals with_reducible rfl) ?_
              try simp only [gA, gB, gC, Act.put, sA, sB, sC]
              refine hT 51 rfl (fun _ _ => by go_simp; all_goals with_reducible rfl) ?_
              try simp only [gA, gB, gC, Act.put, sA, sB, sC]
              refine hT 52 rfl (fun _ _ => by go_simp; all_goals with_reducible rfl) ?_
              try simp only [gA, gB, gC, Act.put, sA, sB, sC]
              refine wpAnyH_done (by kernel_rfl) ?_ _
              go_wp2
              go_meet
              case rel => exact ⟨by rw [HX.out]; rfl, hz4, hHeld.out⟩
          | true =>
            refine hT 15 rfl (fun _ _ => by go_simp; all_goals with_reducible rfl) ?_
            try simp only [gA, gB, gC, Act.put, sA, sB, sC]
            refine hT 16 rfl (fun _ _ => by go_simp; all_goals with_reducible rfl) ?_
            try simp only [gA, gB, gC, Act.put, sA, sB, sC]
            refine hT 17 rfl (fun _ _ => by go_simp; all_goals with_reducible rfl) ?_
            try simp only [gA, gB, gC, Act.put, sA, sB, sC]
            refine hT 18 rfl (fun wH hSw => by have cH := keepN hSw.out c0w; clear hSw; go_simp; all_goals with_reducible rfl) ?_
            try simp only [gA, gB, gC, Act.put, sA, sB, sC]
            refine hT 19 rfl (fun _ _ => by go_simp; all_goals with_reducible rfl) ?_
            try simp only [gA, gB, gC, Act.put, sA, sB, sC]
            refine hT 20 rfl (fun _ _ => by go_simp; all_goals with_reducible rfl) ?_
            try simp only [gA, gB, gC, Act.put, sA, sB, sC]
            refine hTy 21 rfl (by kernel_rfl) (fun _ _ _ h => h) (by assumption) (yieldsIf_load_mid (by rfl) 83 (.tmp 60) rfl g (i * 13) rfl (ndC (n, vks i)) _ (fun wH hSw => hrow wH hSw.out) Tryz.underlying83 rfl (by kernel_rfl)) ?_
            try simp only [gA, gB, gC, Act.put, sA, sB, sC]
            refine hT 22 rfl (fun _ _ => by go_simp; all_goals with_reducible rfl) ?_
            try simp only [gA, gB, gC, Act.put, sA, sB, sC]
            refine hR1 23 rfl fun K hK => ?_
            go_simp
            refine (hM2 _).mono ?_
            rintro e w5 ⟨rfl, m5⟩
            have hz4 := hz4.mod3 m5
            refine hK.out _ _ (Lib.hid (hHeld.out.trans m5)) ?_; clear hK K hHeld; intro hHeld
            try simp only [gA, gB, gC, Act.put, sA, sB, sC]
            refine hT 24 rfl (fun _ _ => by go_simp; all_goals with_reducible rfl) ?_
            try simp only [gA, gB, gC, Act.put, sA, sB, sC]
            refine hT 25 rfl (fun _ _ => by go_simp; all_goals with_reducible rfl) ?_
            try simp only [gA, gB, gC, Act.put, sA, sB, sC]
            refine hT 26 rfl (fun _ _ => by go_simp; all_goals with_reducible rfl) ?_
            try simp only [gA, gB, gC, Act.put, sA, sB, sC]
            refine hT 27 rfl (fun _ _ => by go_simp; all_goals with_reducible rfl) ?_
            try simp only [gA, gB, gC, Act.put, sA, sB, sC]
            cases m2 with
            | false =>
              refine hSk 28 rfl ?_
              try simp only [gA, gB, gC, Act.put, sA, sB, sC]
              refine hSk 29 rfl ?_
              try simp only [gA, gB, gC, Act.put, sA, sB, sC]
              refine hSk 30 rfl ?_
              try simp only [gA, gB, gC, Act.put, sA, sB, sC]
              refine hSk 31 rfl ?_
              try simp only [gA, gB, gC, Act.put, sA, sB, sC]
              refine hSk 32 rfl ?_
              try simp only [gA, gB, gC, Act.put, sA, sB, sC]
              refine hSk 33 rfl ?_
              try simp only [gA, gB, gC, Act.put, sA, sB, sC]
              refine hSk 34 rfl ?_
              try simp only [gA, gB, gC, Act.put, sA, sB, sC]
              refine hSk 35 rfl ?_
              try simp only [gA, gB, gC, Act.put, sA, sB, sC]
              refine hSk 36 rfl ?_
              try simp only [gA, gB, gC, Act.put, sA, sB, sC]
              refine hSk 37 rfl ?_
              try simp only [gA, gB, gC, Act.put, sA, sB, sC]
              refine hSk 38 rfl ?_
              try simp only [gA, gB, gC, Act.put, sA, sB, sC]
              refine hSk 39 rfl ?_
              try simp only [gA, gB, gC, Act.put, sA, sB, sC]
              refine hSk 40 rfl ?_
              try simp only [gA, gB, gC, Act.put, sA, sB, sC]
              refine hSk 41 rfl ?_
              try simp only [gA, gB, gC, Act.put, sA, sB, sC]
              refine hSk 42 rfl ?_
              try simp only [gA, gB, gC, Act.put, sA, sB, sC]
              refine hSk 43 rfl ?_
              try simp only [gA, gB, gC, Act.put, sA, sB, sC]
              refine hSk 44 rfl ?_
              try simp only [gA, gB, gC, Act.put, sA, sB, sC]
              refine hSk 45 rfl ?_
              try simp only [gA, gB, gC, Act.put, sA, sB, sC]
              refine hSk 46 rfl ?_
              try simp only [gA, gB, gC, Act.put, sA, sB, sC]
              refine hSk 47 rfl ?_
              try simp only [gA, gB, gC, Act.put, sA, sB, sC]
              refine hSk 48 rfl ?_
              try simp only [gA, gB, gC, Act.put, sA, sB, sC]
              refine hSk 49 rfl ?_
              try simp only [gA, gB, gC, Act.put, sA, sB, sC]
              refine hSk 50 rfl ?_
              try simp only [gA, gB, gC, Act.put, sA, sB, sC]
              refine hSk 51 rfl ?_
              try simp only [gA, gB, gC, Act.put, sA, sB, sC]
              refine hT 52 rfl (fun _ _ => by go_simp; all_goals with_reducible rfl) ?_
              try simp only [gA, gB, gC, Act.put, sA, sB, sC]
              refine wpAnyH_done (by kernel_rfl) ?_ _
              go_wp2
              go_meet
              case rel => exact ⟨by rw [HX.out]; rfl, hz4, hHeld.out⟩
            | true =>
              refine hT 28 rfl (fun _ _ => by go_simp; all_goals with_reducible rfl) ?_
              try simp only [gA, gB, gC, Act.put, sA, sB, sC]
              refine hT 29 rfl (fun _ _ => by go_simp; all_goals with_reducible rfl) ?_
              try simp only [gA, gB, gC, Act.put, sA, sB, sC]
              refine hT 30 rfl (fun _ _ => by go_simp; all_goals with_reducible rfl) ?_
              try simp only [gA, gB, gC, Act.put, sA, sB, sC]
              refine hT 31 rfl (fun _ _ => by go_simp; all_goals with_reducible rfl) ?_
              try simp only [gA, gB, gC, Act.put, sA, sB, sC]
              cases c64 with
              | false =>
                refine hSk 32 rfl ?_
                try simp only [gA, gB, gC, Act.put, sA, sB, sC]
                refine hSk 33 rfl ?_
                try simp only [gA, gB, gC, Act.put, sA, sB, sC]
                refine hSk 34 rfl ?_
                try simp only [gA, gB, gC, Act.put, sA, sB, sC]
                refine hSk 35 rfl ?_
                try simp only [gA, gB, gC, Act.put, sA, sB, sC]
                refine hSk 36 rfl ?_
                try simp only [gA, gB, gC, Act.put, sA, sB, sC]
                refine hSk 37 rfl ?_
                try simp only [gA, gB, gC, Act.put, sA, sB, sC]
                refine hSk 38 rfl ?_
                try simp only [gA, gB, gC, Act.put, sA, sB, sC]
                refine hSk 39 rfl ?_
                try simp only [gA, gB, gC, Act.put, sA, sB, sC]
                refine hSk 40 rfl ?_
                try simp only [gA, gB, gC, Act.put, sA, sB, sC]
                refine hSk 41 rfl ?_
                try simp only [gA, gB, gC, Act.put, sA, sB, sC]
                refine hSk 42 rfl ?_
                try simp only [gA, gB, gC, Act.put, sA, sB, sC]
                refine hSk 43 rfl ?_
                try simp only [gA, gB, gC, Act.put, sA, sB, sC]
                refine hSk 44 rfl ?_
                try simp only [gA, gB, gC, Act.put, sA, sB, sC]
                refine hSk 45 rfl ?_
                try simp only [gA, gB, gC, Act.put, sA, sB, sC]
                refine hSk 46 rfl ?_
                try simp only [gA, gB, gC, Act.put, sA, sB, sC]
                refine hSk 47 rfl ?_
                try simp only [gA, gB, gC, Act.put, sA, sB, sC]
                refine hSk 48 rfl ?_
                try simp only [gA, gB, gC, Act.put, sA, sB, sC]
                refine hSk 49 rfl ?_
                try simp only [gA, gB, gC, Act.put, sA, sB, sC]
                refine hSk 50 rfl ?_
                try simp only [gA, gB, gC, Act.put, sA, sB, sC]
                refine hT 51 rfl (fun _ _ => by go_simp; all_goals with_reducible rfl) ?_
                try simp only [gA, gB, gC, Act.put, sA, sB, sC]
                refine hT 52 rfl (fun _ _ => by go_simp; all_goals with_reducible rfl) ?_
                try simp only [gA, gB, gC, Act.put, sA, sB, sC]
                refine wpAnyH_done (by kernel_rfl) ?_ _
                go_wp2
                go_meet
                case rel => exact ⟨by rw [HX.out]; rfl, hz4, hHeld.out⟩
              | true =>
                refine hT 32 rfl (fun _ _ => by go_simp; all_goals with_reducible rfl) ?_
                try simp only [gA, gB, gC, Act.put, sA, sB, sC]
                refine hT 33 rfl (fun _ _ => by go_simp; all_goals with_reducible rfl) ?_
                try simp only [gA, gB, gC, Act.put, sA, sB, sC]
                refine hT 34 rfl (fun _ _ => by go_simp; all_goals with_reducible rfl) ?_
                try simp only [gA, gB, gC, Act.put, sA, sB, sC]
                refine hT 35 rfl (fun wH hSw => by have cH := keepN hSw.out c0w; clear hSw; go_simp; all_goals with_reducible rfl) ?_
                try simp only [gA, gB, gC, Act.put, sA, sB, sC]
                refine hT 36 rfl (fun _ _ => by go_simp; all_goals with_reducible rfl) ?_
                try simp only [gA, gB, gC, Act.put, sA, sB, sC]
                refine hT 37 rfl (fun _ _ => by go_simp; all_goals with_reducible rfl) ?_
                try simp only [gA, gB, gC, Act.put, sA, sB, sC]
                refine hT 38 rfl (fun _ _ => by go_simp; all_goals with_reducible rfl) ?_
                try simp only [gA, gB, gC, Act.put, sA, sB, sC]
                refine hT 39 rfl (fun _ _ => by go_simp; all_goals with_reducible rfl) ?_
                try simp only [gA, gB, gC, Act.put, sA, sB, sC]
                refine hT 40 rfl (fun wH hSw => by have cH := keepN hSw.out c0w; clear hSw; go_simp; all_goals with_reducible rfl) ?_
                try simp only [gA, gB, gC, Act.put, sA, sB, sC]
                refine hT 41 rfl (fun _ _ => by go_simp; all_goals with_reducible rfl) ?_
                try simp only [gA, gB, gC, Act.put, sA, sB, sC]
                refine hT 42 rfl (fun _ _ => by go_simp; all_goals with_reducible rfl) ?_
                try simp only [gA, gB, gC, Act.put, sA, sB, sC]
                refine hT 43 rfl (fun _ _ => by go_simp; all_goals with_reducible rfl) ?_
                try simp only [gA, gB, gC, Act.put, sA, sB, sC]
                refine hT 44 rfl (fun wH hSw => by have cH := keepN hSw.out e9; clear hSw; go_simp; all_goals with_reducible rfl) ?_
                try simp only [gA, gB, gC, Act.put, sA, sB, sC]
                refine hT 48 rfl (fun _ _ => by go_simp; all_goals with_reducible rfl) ?_
                try simp only [gA, gB, gC, Act.put, sA, sB, sC]
                refine hR1 45 rfl fun K hK => ?_
                go_simp
                refine (hA2 _ hHeld.out).mono ?_
                rintro e w6 ⟨rfl, rfl⟩
                refine hK.out _ _ (Lib.hid (hHeld.out)) ?_; clear hK K hHeld; intro hHeld
                try simp only [gA, gB, gC, Act.put, sA, sB, sC]
                refine hT 46 rfl (fun _ _ => by go_simp; all_goals with_reducible rfl) ?_
                try simp only [gA, gB, gC, Act.put, sA, sB, sC]
                refine hTy 47 rfl (by kernel_rfl) (fun _ _ _ h => h) (by assumption) (yieldsIf_load_mid (by rfl) 83 (.tmp 86) rfl g (j * 13) rfl (ndC (d, vks j)) _ (fun wH hSw => hrowd wH hSw.out) Tryz.underlying83 rfl (by kernel_rfl)) ?_
                try simp only [gA, gB, gC, Act.put, sA, sB, sC]
                refine hR1 49 rfl fun K hK => ?_
                go_simp
                refine (hMp _).mono ?_
                rintro e w7 ⟨rfl, m7⟩
                have hz4 := hz4.mod3 m7
                refine hK.out _ _ (Lib.hid (hHeld.out.trans m7)) ?_; clear hK K hHeld; intro hHeld
                try simp only [gA, gB, gC, Act.put, sA, sB, sC]
                refine hT 50 rfl (fun _ _ => by go_simp; all_goals with_reducible rfl) ?_
                try simp only [gA, gB, gC, Act.put, sA, sB, sC]
                refine hT 51 rfl (fun _ _ => by go_simp; all_goals with_reducible rfl) ?_
                try simp only [gA, gB, gC, Act.put, sA, sB, sC]
                refine hT 52 rfl (fun _ _ => by go_simp; all_goals with_reducible rfl) ?_
                try simp only [gA, gB, gC, Act.put, sA, sB, sC]
                refine wpAnyH_done (by kernel_rfl) ?_ _
                go_wp2
                go_meet
                case rel => exact ⟨by rw [HX.out]; rfl, hz4, hHeld.out⟩
      case rest =>
        obtain ⟨rfl, hz, HM⟩ := hcut
        clear hz4
        cases X with
        | true =>
          have he : openE T n m who = 182 := HE4.out
          have HV : Hid (openT T p m who now = (T, Qi.zero, 182)) := by show _ = _; rw [HS2.out, he]; rfl
          clear HS2 HE4 he
          go_upto_region 10 with (fail)
          refine wp_region_lit ?_
          refine wpList_plain rfl fun K hK => ?_
          go_simp
          refine hK _ _ ?_
          clear hK K
          refine wpl_store_row rfl 35 (.tmp 10) (.tmp 93) rfl rfl w.heap.size (qiC Qi.zero) rfl rfl 35 _ hz rfl (qi_one _) (by kernel_rfl) ?_
          intro V9 hv9 mv9
          refine wpList_plain rfl fun K hK => ?_
          go_simp
          refine hK _ _ ?_
          clear hK K
          refine wpList_nil ?_
          have MV : Hid (Mod (fun _ => False) w V9) := (HM.out).trans' mv9 fun k hk e => by omega
          go_wp2
          refine bodyPost_ret (results_cell2 rfl _ _ V9 w.heap.size (qiC Qi.zero) _ rfl (qi_rng hv9) Tryz.underlying35 rfl (by kernel_rfl)) rfl ⟨by rw [HV.out]; rfl, by rw [HV.out]; exact H.out.mod MV.out (fun _ x => x.elim), MV.out.mono (fun _ _ x => x.elim)⟩
        | false =>
          have he : openE T n m who = 0 := HE4.out
          have HS3 : Hid (openT T p m who now = if q16 ≠ 0 ∧ n.data.size ≠ 0 then ({ T with L := updN T.L p fun n => Nd.touch { n with data := ByteArray.empty } who now }, qidOf (Nd.touch { n with data := ByteArray.empty } who now), 0) else (T, qidOf n, 0)) := by show _ = _; rw [HS2.out, he]; rfl
          have hRc := H.out.mod HM.out (fun _ x => x.elim)
          have c0 := hRc.rv.c0
          have e11 : wc.cell? ⟨g, i * 13 + 11, none⟩ = some (.string n.data) := hRc.rv.el i n hn 11 _ rfl
          have z11 : wc.frozen? ⟨g, i * 13 + 11, none⟩ = false := hRc.free hil (by decide)
          have hgw : g < w.heap.size := H.out.lt g H.out.fg
          clear HS2 HE4 he hA2 hNe hMa hM2 hMp hrow hrowd
          by_cases hcut : c16 = true ∧ n.data.size ≠ 0
          · obtain ⟨rfl, hdz⟩ := hcut
            have qE : n.data.toList.isEmpty = false := by rw [empty_beq]; simpa using hdz
            have hq16 : q16 ≠ 0 := by have := HC.out; simpa using this
            have HV : Hid (openT T p m who now = ({ T with L := T.L.set i (Nd.touch { n with data := ByteArray.empty } who now) }, qidOf (Nd.touch { n with data := ByteArray.empty } who now), 0)) := by
              show _ = _
              rw [HS3.out, if_pos ⟨hq16, hdz⟩, stat_upd hwf.rise hi hn]
            obtain ⟨W1, hW1⟩ : ∃ W1, wc.setCell ⟨g, i * 13 + 11, none⟩ (.string { data := #[] }) = W1 := ⟨_, rfl⟩
            obtain ⟨h1, m1⟩ := hRc.set (n' := { n with data := ByteArray.empty }) hn rfl 11 (.string { data := #[] }) (by decide) rfl
            rw [hW1] at h1 m1
            have hTo := rtouch_any F b g cap _ vks p i { n with data := ByteArray.empty } who now W1 h1 (by show (T.L.set i _).length ≤ 1024; rw [List.length_set]; exact hl) (idx_set hi hn rfl) (get_set hil) hno.ver
            have hz1 : ZAt W1 w.heap.size := (m1.block _ (lt_of hz) (fun e => by omega)).trans hz
            have HM1 : Hid (Mod F w W1) := (HM.out.mono fun _ _ x => x.elim).trans (m1.mono fun k _ e => by rw [e]; exact H.out.fg)
            clear HS3 hRc h1
            simp only [List.set_set] at hTo
            go_wp2_with fail
            refine hTo.mono ?_
            rintro e w3 ⟨rfl, h3, m3⟩
            have hz3 : ZAt w3 w.heap.size := (m3.block _ (lt_of hz1) (fun e => by omega)).trans hz1
            have HM3 : Hid (Mod F w w3) := HM1.out.trans (m3.mono fun k _ e => by rw [e]; exact H.out.fg)
            have hlen : (T.L.set i (Nd.touch { n with data := ByteArray.empty } who now)).length = T.L.length := List.length_set
            have c0 : w3.cell? ⟨b, 0, none⟩ = some (.slice (some ⟨g, 0, none⟩) T.L.length cap) := by rw [← hlen]; exact h3.rv.c0
            have hre := h3.rv.elem (i := i) (get_set hil)
            have HR3 := Lib.hid h3
            have hq := rqid_any (Nd.touch { n with data := ByteArray.empty } who now) (vks i) w3
            have hln2 := ndC_len (Nd.touch { n with data := ByteArray.empty } who now, vks i)
            generalize Nd.touch { n with data := ByteArray.empty } who now = n2 at *
            clear hTo h3 m3 m1 hW1 hlen
            go_wp2_with (refine wpList_load_mid rfl 83 (.tmp 123) rfl g (i * 13) rfl (ndC (n2, vks i)) _ hre Tryz.underlying83 rfl (by kernel_rfl) ?_)
            refine hq.mono ?_
            rintro e w4 ⟨rfl, m4⟩
            have hz4 := hz3.mod3 m4
            go_wp2_with (refine wpl_store_row rfl 35 (.tmp 10) (.tmp 125) rfl rfl w.heap.size (qiC (qidOf n2)) rfl rfl 35 _ hz4 rfl (qi_one _) (by kernel_rfl) ?_; intro V9 hv9 mv9)
            have M9 : Hid (Mod F w V9) := ((HM3.out).trans (m4.mono fun _ _ x => x.elim)).trans' mv9 fun k hk e => by omega
            have R9 := ((HR3.out).mod m4 (fun _ x => x.elim)).mod mv9 (fun k e x => by have := H.out.lt k x; omega)
            refine bodyPost_ret (results_cell2 rfl _ _ V9 w.heap.size (qiC (qidOf n2)) _ rfl (qi_rng hv9) Tryz.underlying35 rfl (by kernel_rfl)) rfl ⟨by rw [HV.out]; rfl, by rw [HV.out]; exact R9, M9.out⟩
          · have HV : Hid (openT T p m who now = (T, qidOf n, 0)) := by
              show _ = _
              rw [HS3.out, if_neg]
              rintro ⟨h1, h2⟩
              refine hcut ⟨?_, h2⟩
              rw [← HC.out]
              simpa using h1
            have hre := hRc.rv.elem hn
            have hq := rqid_any n (vks i) wc
            have HR3 := Lib.hid hRc
            have HM3 : Hid (Mod F w wc) := HM.out.mono fun _ _ x => x.elim
            clear HS3 hRc
            cases c16 with
            | false =>
              clear hcut
              go_wp2_with (refine wpList_load_mid rfl 83 (.tmp 123) rfl g (i * 13) rfl (ndC (n, vks i)) _ hre Tryz.underlying83 rfl (by kernel_rfl) ?_)
              refine hq.mono ?_
              rintro e w4 ⟨rfl, m4⟩
              have hz4 := hz.mod3 m4
              go_wp2_with (refine wpl_store_row rfl 35 (.tmp 10) (.tmp 125) rfl rfl w.heap.size (qiC (qidOf n)) rfl rfl 35 _ hz4 rfl (qi_one _) (by kernel_rfl) ?_; intro V9 hv9 mv9)
              have M9 : Hid (Mod F w V9) := ((HM3.out).trans (m4.mono fun _ _ x => x.elim)).trans' mv9 fun k hk e => by omega
              have R9 := ((HR3.out).mod m4 (fun _ x => x.elim)).mod mv9 (fun k e x => by have := H.out.lt k x; omega)
              refine bodyPost_ret (results_cell2 rfl _ _ V9 w.heap.size (qiC (qidOf n)) _ rfl (qi_rng hv9) Tryz.underlying35 rfl (by kernel_rfl)) rfl ⟨by rw [HV.out]; rfl, by rw [HV.out]; exact R9, M9.out⟩
            | true =>
              have hdz : n.data.size = 0 := by by_cases h : n.data.size = 0; exact h; exact absurd ⟨rfl, h⟩ hcut
              have qE : n.data.toList.isEmpty = true := by rw [empty_beq]; simpa using hdz
              clear hcut hdz
              go_wp2_with (refine wpList_load_mid rfl 83 (.tmp 123) rfl g (i * 13) rfl (ndC (n, vks i)) _ hre Tryz.underlying83 rfl (by kernel_rfl) ?_)
              refine hq.mono ?_
              rintro e w4 ⟨rfl, m4⟩
              have hz4 := hz.mod3 m4
              go_wp2_with (refine wpl_store_row rfl 35 (.tmp 10) (.tmp 125) rfl rfl w.heap.size (qiC (qidOf n)) rfl rfl 35 _ hz4 rfl (qi_one _) (by kernel_rfl) ?_; intro V9 hv9 mv9)
              have M9 : Hid (Mod F w V9) := ((HM3.out).trans (m4.mono fun _ _ x => x.elim)).trans' mv9 fun k hk e => by omega
              have R9 := ((HR3.out).mod m4 (fun _ x => x.elim)).mod mv9 (fun k e x => by have := H.out.lt k x; omega)
              refine bodyPost_ret (results_cell2 rfl _ _ V9 w.heap.size (qiC (qidOf n)) _ rfl (qi_rng hv9) Tryz.underlying35 rfl (by kernel_rfl)) rfl ⟨by rw [HV.out]; rfl, by rw [HV.out]; exact R9, M9.out⟩
    | true =>
      rw [hdir] at e1
      have hm0 : m = 0 := by rcases Nat.eq_zero_or_pos m with h0 | h0; exact h0; exact absurd ⟨hdir, by omega⟩ HdM.out
      have t2 : ((m : Int) != 0) = false := by simp [hm0]
      clear hm0
      go_upto_region 9 with (fail)
      have hz4 : ZAt V.drew w.heap.size := HZ.out
      go_cut [92] from 40 to 91 (fun v wc => v = .bool X ∧ ZAt wc w.heap.size ∧ Hid (Mod (fun _ => False) w wc))
      case first =>
        refine wp_region_held_drew (S := fun w' => Hid (Mod (fun _ => False) w w')) (by kernel_rfl) (Lib.hid M0.out.drew) (fun hHeld => ?_)
        refine hT 0 rfl (fun _ _ => by go_simp; all_goals with_reducible rfl) ?_
        try simp only [gA, gB, gC, Act.put, sA, sB, sC]
        refine hT 1 rfl (fun _ _ => by go_simp; all_goals with_reducible rfl) ?_
        try simp only [gA, gB, gC, Act.put, sA, sB, sC]
        refine hT 2 rfl (fun _ _ => by go_simp; all_goals with_reducible rfl) ?_
        try simp only [gA, gB, gC, Act.put, sA, sB, sC]
        refine hT 3 rfl (fun wH hSw => by have cH := keepN hSw.out c0w; clear hSw; go_simp; all_goals with_reducible rfl) ?_
        try simp only [gA, gB, gC, Act.put, sA, sB, sC]
        refine hT 4 rfl (fun _ _ => by go_simp; all_goals with_reducible rfl) ?_
        try simp only [gA, gB, gC, Act.put, sA, sB, sC]
        refine hT 5 rfl (fun _ _ => by go_simp; all_goals with_reducible rfl) ?_
        try simp only [gA, gB, gC, Act.put, sA, sB, sC]
        refine hTy 6 rfl (by kernel_rfl) (fun _ _ _ h => h) (by assumption) (yieldsIf_load_mid (by rfl) 83 (.tmp 45) rfl g (i * 13) rfl (ndC (n, vks i)) _ (fun wH hSw => hrow wH hSw.out) Tryz.underlying83 rfl (by kernel_rfl)) ?_
        try simp only [gA, gB, gC, Act.put, sA, sB, sC]
        refine hT 7 rfl (fun _ _ => by go_simp; all_goals with_reducible rfl) ?_
        try simp only [gA, gB, gC, Act.put, sA, sB, sC]
        refine hT 8 rfl (fun _ _ => by go_simp; all_goals with_reducible rfl) ?_
        try simp only [gA, gB, gC, Act.put, sA, sB, sC]
        refine hR1 9 rfl fun K hK => ?_
        go_simp
        refine (hNe _).mono ?_
        rintro e w4 ⟨rfl, rfl⟩
        refine hK.out _ _ (Lib.hid (hHeld.out)) ?_; clear hK K hHeld; intro hHeld
        try simp only [gA, gB, gC, Act.put, sA, sB, sC]
        refine hR1 10 rfl fun K hK => ?_
        go_simp
        refine (hMa _).mono ?_
        rintro e w4 ⟨rfl, m4⟩
        have hz4 := hz4.mod3 m4
        refine hK.out _ _ (Lib.hid (hHeld.out.trans m4)) ?_; clear hK K hHeld; intro hHeld
        try simp only [gA, gB, gC, Act.put, sA, sB, sC]
        refine hT 11 rfl (fun _ _ => by go_simp; all_goals with_reducible rfl) ?_
        try simp only [gA, gB, gC, Act.put, sA, sB, sC]
        refine hT 12 rfl (fun _ _ => by go_simp; all_goals with_reducible rfl) ?_
        try simp only [gA, gB, gC, Act.put, sA, sB, sC]
        cases mA with
        | false =>
          refine hSk 13 rfl ?_
          try simp only [gA, gB, gC, Act.put, sA, sB, sC]
          refine hSk 14 rfl ?_
          try simp only [gA, gB, gC, Act.put, sA, sB, sC]
          refine hSk 15 rfl ?_
          try simp only [gA, gB, gC, Act.put, sA, sB, sC]
          refine hSk 16 rfl ?_
          try simp only [gA, gB, gC, Act.put, sA, sB, sC]
          refine hSk 17 rfl ?_
          try simp only [gA, gB, gC, Act.put, sA, sB, sC]
          refine hSk 18 rfl ?_
          try simp only [gA, gB, gC, Act.put, sA, sB, sC]
          refine hSk 19 rfl ?_
          try simp only [gA, gB, gC, Act.put, sA, sB, sC]
          refine hSk 20 rfl ?_
          try simp only [gA, gB, gC, Act.put, sA, sB, sC]
          refine hSk 21 rfl ?_
          try simp only [gA, gB, gC, Act.put, sA, sB, sC]
          refine hSk 22 rfl ?_
          try simp only [gA, gB, gC, Act.put, sA, sB, sC]
          refine hSk 23 rfl ?_
          try simp only [gA, gB, gC, Act.put, sA, sB, sC]
          refine hSk 24 rfl ?_
          try simp only [gA, gB, gC, Act.put, sA, sB, sC]
          refine hSk 25 rfl ?_
          try simp only [gA, gB, gC, Act.put, sA, sB, sC]
          refine hT 26 rfl (fun _ _ => by go_simp; all_goals with_reducible rfl) ?_
          try simp only [gA, gB, gC, Act.put, sA, sB, sC]
          refine hT 27 rfl (fun _ _ => by go_simp; all_goals with_reducible rfl) ?_
          try simp only [gA, gB, gC, Act.put, sA, sB, sC]
          refine hSk 28 rfl ?_
          try simp only [gA, gB, gC, Act.put, sA, sB, sC]
          refine hSk 29 rfl ?_
          try simp only [gA, gB, gC, Act.put, sA, sB, sC]
          refine hSk 30 rfl ?_
          try simp only [gA, gB, gC, Act.put, sA, sB, sC]
          refine hSk 31 rfl ?_
          try simp only [gA, gB, gC, Act.put, sA, sB, sC]
          refine hSk 32 rfl ?_
          try simp only [gA, gB, gC, Act.put, sA, sB, sC]
          refine hSk 33 rfl ?_
          try simp only [gA, gB, gC, Act.put, sA, sB, sC]
          refine hSk 34 rfl ?_
          try simp only [gA, gB, gC, Act.put, sA, sB, sC]
          refine hSk 35 rfl ?_
          try simp only [gA, gB, gC, Act.put, sA, sB, sC]
          refine hSk 36 rfl ?_
          try simp only [gA, gB, gC, Act.put, sA, sB, sC]
          refine hSk 37 rfl ?_
          try simp only [gA, gB, gC, Act.put, sA, sB, sC]
          refine hSk 38 rfl ?_
          try simp only [gA, gB, gC, Act.put, sA, sB, sC]
          refine hSk 39 rfl ?_
          try simp only [gA, gB, gC, Act.put, sA, sB, sC]
          refine hSk 40 rfl ?_
          try simp only [gA, gB, gC, Act.put, sA, sB, sC]
          refine hSk 41 rfl ?_
          try simp only [gA, gB, gC, Act.put, sA, sB, sC]
          refine hSk 42 rfl ?_
          try simp only [gA, gB, gC, Act.put, sA, sB, sC]
          refine hSk 43 rfl ?_
          try simp only [gA, gB, gC, Act.put, sA, sB, sC]
          refine hSk 44 rfl ?_
          try simp only [gA, gB, gC, Act.put, sA, sB, sC]
          refine hSk 45 rfl ?_
          try simp only [gA, gB, gC, Act.put, sA, sB, sC]
          refine hSk 46 rfl ?_
          try simp only [gA, gB, gC, Act.put, sA, sB, sC]
          refine hSk 47 rfl ?_
          try simp only [gA, gB, gC, Act.put, sA, sB, sC]
          refine hSk 48 rfl ?_
          try simp only [gA, gB, gC, Act.put, sA, sB, sC]
          refine hSk 49 rfl ?_
          try simp only [gA, gB, gC, Act.put, sA, sB, sC]
          refine hSk 50 rfl ?_
          try simp only [gA, gB, gC, Act.put, sA, sB, sC]
          refine hSk 51 rfl ?_
          try simp only [gA, gB, gC, Act.put, sA, sB, sC]
          refine hT 52 rfl (fun _ _ => by go_simp; all_goals with_reducible rfl) ?_
          try simp only [gA, gB, gC, Act.put, sA, sB, sC]
          refine wpAnyH_done (by kernel_rfl) ?_ _
          go_wp2
          go_meet
          case rel => exact ⟨by rw [HX.out]; rfl, hz4, hHeld.out⟩
        | true =>
          refine hT 13 rfl (fun _ _ => by go_simp; all_goals with_reducible rfl) ?_
          try simp only [gA, gB, gC, Act.put, sA, sB, sC]
          refine hT 14 rfl (fun _ _ => by go_simp; all_goals with_reducible rfl) ?_
          try simp only [gA, gB, gC, Act.put, sA, sB, sC]
          cases c16 with
          | false =>
            refine hSk 15 rfl ?_
            try simp only [gA, gB, gC, Act.put, sA, sB, sC]
            refine hSk 16 rfl ?_
            try simp only [gA, gB, gC, Act.put, sA, sB, sC]
            refine hSk 17 rfl ?_
            try simp only [gA, gB, gC, Act.put, sA, sB, sC]
            refine hSk 18 rfl ?_
            try simp only [gA, gB, gC, Act.put, sA, sB, sC]
            refine hSk 19 rfl ?_
            try simp only [gA, gB, gC, Act.put, sA, sB, sC]
            refine hSk 20 rfl ?_
            try simp only [gA, gB, gC, Act.put, sA, sB, sC]
            refine hSk 21 rfl ?_
            try simp only [gA, gB, gC, Act.put, sA, sB, sC]
            refine hSk 22 rfl ?_
            try simp only [gA, gB, gC, Act.put, sA, sB, sC]
            refine hSk 23 rfl ?_
            try simp only [gA, gB, gC, Act.put, sA, sB, sC]
            refine hSk 24 rfl ?_
            try simp only [gA, gB, gC, Act.put, sA, sB, sC]
            refine hT 25 rfl (fun _ _ => by go_simp; all_goals with_reducible rfl) ?_
            try simp only [gA, gB, gC, Act.put, sA, sB, sC]
            refine hT 26 rfl (fun _ _ => by go_simp; all_goals with_reducible rfl) ?_
            try simp only [gA, gB, gC, Act.put, sA, sB, sC]
            refine hT 27 rfl (fun _ _ => by go_simp; all_goals with_reducible rfl) ?_
            try simp only [gA, gB, gC, Act.put, sA, sB, sC]
            refine hT 28 rfl (fun _ _ => by go_simp; all_goals with_reducible rfl) ?_
            try simp only [gA, gB, gC, Act.put, sA, sB, sC]
            refine hT 29 rfl (fun _ _ => by go_simp; all_goals with_reducible rfl) ?_
            try simp only [gA, gB, gC, Act.put, sA, sB, sC]
            refine hT 30 rfl (fun _ _ => by go_simp; all_goals with_reducible rfl) ?_
            try simp only [gA, gB, gC, Act.put, sA, sB, sC]
            refine hT 31 rfl (fun _ _ => by go_simp; all_goals with_reducible rfl) ?_
            try simp only [gA, gB, gC, Act.put, sA, sB, sC]
            cases c64 with
            | false =>
              refine hSk 32 rfl ?_
              try simp only [gA, gB, gC, Act.put, sA, sB, sC]
              refine hSk 33 rfl ?_
              try simp only [gA, gB, gC, Act.put, sA, sB, sC]
              refine hSk 34 rfl ?_
              try simp only [gA, gB, gC, Act.put, sA, sB, sC]
              refine hSk 35 rfl ?_
              try simp only [gA, gB, gC, Act.put, sA, sB, sC]
              refine hSk 36 rfl ?_
              try simp only [gA, gB, gC, Act.put, sA, sB, sC]
              refine hSk 37 rfl ?_
              try simp only [gA, gB, gC, Act.put, sA, sB, sC]
              refine hSk 38 rfl ?_
              try simp only [gA, gB, gC, Act.put, sA, sB, sC]
              refine hSk 39 rfl ?_
              try simp only [gA, gB, gC, Act.put, sA, sB, sC]
              refine hSk 40 rfl ?_
              try simp only [gA, gB, gC, Act.put, sA, sB, sC]
              refine hSk 41 rfl ?_
              try simp only [gA, gB, gC, Act.put, sA, sB, sC]
              refine hSk 42 rfl ?_
              try simp only [gA, gB, gC, Act.put, sA, sB, sC]
              refine hSk 43 rfl ?_
              try simp only [gA, gB, gC, Act.put, sA, sB, sC]
              refine hSk 44 rfl ?_
              try simp only [gA, gB, gC, Act.put, sA, sB, sC]
              refine hSk 45 rfl ?_
              try simp only [gA, gB, gC, Act.put, sA, sB, sC]
              refine hSk 46 rfl ?_
              try simp only [gA, gB, gC, Act.put, sA, sB, sC]
              refine hSk 47 rfl ?_
              try simp only [gA, gB, gC, Act.put, sA, sB, sC]
              refine hSk 48 rfl ?_
              try simp only [gA, gB, gC, Act.put, sA, sB, sC]
              refine hSk 49 rfl ?_
              try simp only [gA, gB, gC, Act.put, sA, sB, sC]
              refine hSk 50 rfl ?_
              try simp only [gA, gB, gC, Act.put, sA, sB, sC]
              refine hT 51 rfl (fun _ _ => by go_simp; all_goals with_reducible rfl) ?_
              try simp only [gA, gB, gC, Act.put, sA, sB, sC]
              refine hT 52 rfl (fun _ _ => by go_simp; all_goals with_reducible rfl) ?_
              try simp only [gA, gB, gC, Act.put, sA, sB, sC]
              refine wpAnyH_done (by kernel_rfl) ?_ _
              go_wp2
              go_meet
              case rel => exact ⟨by rw [HX.out]; rfl, hz4, hHeld.out⟩
            | true =>
              refine hT 32 rfl (fun _ _ => by go_simp; all_goals with_reducible rfl) ?_
              try simp only [gA, gB, gC, Act.put, sA, sB, sC]
              refine hT 33 rfl (fun _ _ => by go_simp; all_goals with_reducible rfl) ?_
              try simp only [gA, gB, gC, Act.put, sA, sB, sC]
              refine hT 34 rfl (fun _ _ => by go_simp; all_goals with_reducible rfl) ?_
              try simp only [gA, gB, gC, Act.put, sA, sB, sC]
              refine hT 35 rfl (fun wH hSw => by have cH := keepN hSw.out c0w; clear hSw; go_simp; all_goals with_reducible rfl) ?_
              try simp only [gA, gB, gC, Act.put, sA, sB, sC]
              refine hT 36 rfl (fun _ _ => by go_simp; all_goals with_reducible rfl) ?_
              try simp only [gA, gB, gC, Act.put, sA, sB, sC]
              refine hT 37 rfl (fun _ _ => by go_simp; all_goals with_reducible rfl) ?_
              try simp only [gA, gB, gC, Act.put, sA, sB, sC]
              refine hT 38 rfl (fun _ _ => by go_simp; all_goals with_reducible rfl) ?_
              try simp only [gA, gB, gC, Act.put, sA, sB, sC]
              refine hT 39 rfl (fun _ _ => by go_simp; all_goals with_reducible rfl) ?_
              try simp only [gA, gB, gC, Act.put, sA, sB, sC]
              refine hT 40 rfl (fun wH hSw => by have cH := keepN hSw.out c0w; clear hSw; go_simp; all_goals with_reducible rfl) ?_
              try simp only [gA, gB, gC, Act.put, sA, sB, sC]
              refine hT 41 rfl (fun _ _ => by go_simp; all_goals with_reducible rfl) ?_
              try simp only [gA, gB, gC, Act.put, sA, sB, sC]
              refine hT 42 rfl (fun _ _ => by go_simp; all_goals with_reducible rfl) ?_
              try simp only [gA, gB, gC, Act.put, sA, sB, sC]
              refine hT 43 rfl (fun _ _ => by go_simp; all_goals with_reducible rfl) ?_
              try simp only [gA, gB, gC, Act.put, sA, sB, sC]
              refine hT 44 rfl (fun wH hSw => by have cH := keepN hSw.out e9; clear hSw; go_simp; all_goals with_reducible rfl) ?_
              try simp only [gA, gB, gC, Act.put, sA, sB, sC]
              refine hT 48 rfl (fun _ _ => by go_simp; all_goals with_reducible rfl) ?_
              try simp only [gA, gB, gC, Act.put, sA, sB, sC]
              refine hR1 45 rfl fun K hK => ?_
              go_simp
              refine (hA2 _ hHeld.out).mono ?_
              rintro e w6 ⟨rfl, rfl⟩
              refine hK.out _ _ (Lib.hid (hHeld.out)) ?_; clear hK K hHeld; intro hHeld
              try simp only [gA, gB, gC, Act.put, sA, sB, sC]
              refine hT 46 rfl (fun _ _ => by go_simp; all_goals with_reducible rfl) ?_
              try simp only [gA, gB, gC, Act.put, sA, sB, sC]
              refine hTy 47 rfl (by kernel_rfl) (fun _ _ _ h => h) (by assumption) (yieldsIf_load_mid (by rfl) 83 (.tmp 86) rfl g (j * 13) rfl (ndC (d, vks j)) _ (fun wH hSw => hrowd wH hSw.out) Tryz.underlying83 rfl (by kernel_rfl)) ?_
              try simp only [gA, gB, gC, Act.put, sA, sB, sC]
              refine hR1 49 rfl fun K hK => ?_
              go_simp
              refine (hMp _).mono ?_
              rintro e w7 ⟨rfl, m7⟩
              have hz4 := hz4.mod3 m7
              refine hK.out _ _ (Lib.hid (hHeld.out.trans m7)) ?_; clear hK K hHeld; intro hHeld
              try simp only [gA, gB, gC, Act.put, sA, sB, sC]
              refine hT 50 rfl (fun _ _ => by go_simp; all_goals with_reducible rfl) ?_
              try simp only [gA, gB, gC, Act.put, sA, sB, sC]
              refine hT 51 rfl (fun _ _ => by go_simp; all_goals with_reducible rfl) ?_
              try simp only [gA, gB, gC, Act.put, sA, sB, sC]
              refine hT 52 rfl (fun _ _ => by go_simp; all_goals with_reducible rfl) ?_
              try simp only [gA, gB, gC, Act.put, sA, sB, sC]
              refine wpAnyH_done (by kernel_rfl) ?_ _
              go_wp2
              go_meet
              case rel => exact ⟨by rw [HX.out]; rfl, hz4, hHeld.out⟩
          | true =>
            refine hT 15 rfl (fun _ _ => by go_simp; all_goals with_reducible rfl) ?_
            try simp only [gA, gB, gC, Act.put, sA, sB, sC]
            refine hT 16 rfl (fun _ _ => by go_simp; all_goals with_reducible rfl) ?_
            try simp only [gA, gB, gC, Act.put, sA, sB, sC]
            refine hT 17 rfl (fun _ _ => by go_simp; all_goals with_reducible rfl) ?_
            try simp only [gA, gB, gC, Act.put, sA, sB, sC]
            refine hT 18 rfl (fun wH hSw => by have cH := keepN hSw.out c0w; clear hSw; go_simp; all_goals with_reducible rfl) ?_
            try simp only [gA, gB, gC, Act.put, sA, sB, sC]
            refine hT 19 rfl (fun _ _ => by go_simp; all_goals with_reducible rfl) ?_
            try simp only [gA, gB, gC, Act.put, sA, sB, sC]
            refine hT 20 rfl (fun _ _ => by go_simp; all_goals with_reducible rfl) ?_
            try simp only [gA, gB, gC, Act.put, sA, sB, sC]
            refine hTy 21 rfl (by kernel_rfl) (fun _ _ _ h => h) (by assumption) (yieldsIf_load_mid (by rfl) 83 (.tmp 60) rfl g (i * 13) rfl (ndC (n, vks i)) _ (fun wH hSw => hrow wH hSw.out) Tryz.underlying83 rfl (by kernel_rfl)) ?_
            try simp only [gA, gB, gC, Act.put, sA, sB, sC]
            refine hT 22 rfl (fun _ _ => by go_simp; all_goals with_reducible rfl) ?_
            try simp only [gA, gB, gC, Act.put, sA, sB, sC]
            refine hR1 23 rfl fun K hK => ?_
            go_simp
            refine (hM2 _).mono ?_
            rintro e w5 ⟨rfl, m5⟩
            have hz4 := hz4.mod3 m5
            refine hK.out _ _ (Lib.hid (hHeld.out.trans m5)) ?_; clear hK K hHeld; intro hHeld
            try simp only [gA, gB, gC, Act.put, sA, sB, sC]
            refine hT 24 rfl (fun _ _ => by go_simp; all_goals with_reducible rfl) ?_
            try simp only [gA, gB, gC, Act.put, sA, sB, sC]
            refine hT 25 rfl (fun _ _ => by go_simp; all_goals with_reducible rfl) ?_
            try simp only [gA, gB, gC, Act.put, sA, sB, sC]
            refine hT 26 rfl (fun _ _ => by go_simp; all_goals with_reducible rfl) ?_
            try simp only [gA, gB, gC, Act.put, sA, sB, sC]
            refine hT 27 rfl (fun _ _ => by go_simp; all_goals with_reducible rfl) ?_
            try simp only [gA, gB, gC, Act.put, sA, sB, sC]
            cases m2 with
            | false =>
              refine hSk 28 rfl ?_
              try simp only [gA, gB, gC, Act.put, sA, sB, sC]
              refine hSk 29 rfl ?_
              try simp only [gA, gB, gC, Act.put, sA, sB, sC]
              refine hSk 30 rfl ?_
              try simp only [gA, gB, gC, Act.put, sA, sB, sC]
              refine hSk 31 rfl ?_
              try simp only [gA, gB, gC, Act.put, sA, sB, sC]
              refine hSk 32 rfl ?_
              try simp only [gA, gB, gC, Act.put, sA, sB, sC]
              refine hSk 33 rfl ?_
              try simp only [gA, gB, gC, Act.put, sA, sB, sC]
              refine hSk 34 rfl ?_
              try simp only [gA, gB, gC, Act.put, sA, sB, sC]
              refine hSk 35 rfl ?_
              try simp only [gA, gB, gC, Act.put, sA, sB, sC]
              refine hSk 36 rfl ?_
              try simp only [gA, gB, gC, Act.put, sA, sB, sC]
              refine hSk 37 rfl ?_
              try simp only [gA, gB, gC, Act.put, sA, sB, sC]
              refine hSk 38 rfl ?_
              try simp only [gA, gB, gC, Act.put, sA, sB, sC]
              refine hSk 39 rfl ?_
              try simp only [gA, gB, gC, Act.put, sA, sB, sC]
              refine hSk 40 rfl ?_
              try simp only [gA, gB, gC, Act.put, sA, sB, sC]
              refine hSk 41 rfl ?_
              try simp only [gA, gB, gC, Act.put, sA, sB, sC]
              refine hSk 42 rfl ?_
              try simp only [gA, gB, gC, Act.put, sA, sB, sC]
              refine hSk 43 rfl ?_
              try simp only [gA, gB, gC, Act.put, sA, sB, sC]
              refine hSk 44 rfl ?_
              try simp only [gA, gB, gC, Act.put, sA, sB, sC]
              refine hSk 45 rfl ?_
              try simp only [gA, gB, gC, Act.put, sA, sB, sC]
              refine hSk 46 rfl ?_
              try simp only [gA, gB, gC, Act.put, sA, sB, sC]
              refine hSk 47 rfl ?_
              try simp only [gA, gB, gC, Act.put, sA, sB, sC]
              refine hSk 48 rfl ?_
              try simp only [gA, gB, gC, Act.put, sA, sB, sC]
              refine hSk 49 rfl ?_
              try simp only [gA, gB, gC, Act.put, sA, sB, sC]
              refine hSk 50 rfl ?_
              try simp only [gA, gB, gC, Act.put, sA, sB, sC]
              refine hSk 51 rfl ?_
              try simp only [gA, gB, gC, Act.put, sA, sB, sC]
              refine hT 52 rfl (fun _ _ => by go_simp; all_goals with_reducible rfl) ?_
              try simp only [gA, gB, gC, Act.put, sA, sB, sC]
              refine wpAnyH_done (by kernel_rfl) ?_ _
              go_wp2
              go_meet
              case rel => exact ⟨by rw [HX.out]; rfl, hz4, hHeld.out⟩
            | true =>
              refine hT 28 rfl (fun _ _ => by go_simp; all_goals with_reducible rfl) ?_
              try simp only [gA, gB, gC, Act.put, sA, sB, sC]
              refine hT 29 rfl (fun _ _ => by go_simp; all_goals with_reducible rfl) ?_
              try simp only [gA, gB, gC, Act.put, sA, sB, sC]
              refine hT 30 rfl (fun _ _ => by go_simp; all_goals with_reducible rfl) ?_
              try simp only [gA, gB, gC, Act.put, sA, sB, sC]
              refine hT 31 rfl (fun _ _ => by go_simp; all_goals with_reducible rfl) ?_
              try simp only [gA, gB, gC, Act.put, sA, sB, sC]
              cases c64 with
              | false =>
                refine hSk 32 rfl ?_
                try simp only [gA, gB, gC, Act.put, sA, sB, sC]
                refine hSk 33 rfl ?_
                try simp only [gA, gB, gC, Act.put, sA, sB, sC]
                refine hSk 34 rfl ?_
                try simp only [gA, gB, gC, Act.put, sA, sB, sC]
                refine hSk 35 rfl ?_
                try simp only [gA, gB, gC, Act.put, sA, sB, sC]
                refine hSk 36 rfl ?_
                try simp only [gA, gB, gC, Act.put, sA, sB, sC]
                refine hSk 37 rfl ?_
                try simp only [gA, gB, gC, Act.put, sA, sB, sC]
                refine hSk 38 rfl ?_
                try simp only [gA, gB, gC, Act.put, sA, sB, sC]
                refine hSk 39 rfl ?_
                try simp only [gA, gB, gC, Act.put, sA, sB, sC]
                refine hSk 40 rfl ?_
                try simp only [gA, gB, gC, Act.put, sA, sB, sC]
                refine hSk 41 rfl ?_
                try simp only [gA, gB, gC, Act.put, sA, sB, sC]
                refine hSk 42 rfl ?_
                try simp only [gA, gB, gC, Act.put, sA, sB, sC]
                refine hSk 43 rfl ?_
                try simp only [gA, gB, gC, Act.put, sA, sB, sC]
                refine hSk 44 rfl ?_
                try simp only [gA, gB, gC, Act.put, sA, sB, sC]
                refine hSk 45 rfl ?_
                try simp only [gA, gB, gC, Act.put, sA, sB, sC]
                refine hSk 46 rfl ?_
                try simp only [gA, gB, gC, Act.put, sA, sB, sC]
                refine hSk 47 rfl ?_
                try simp only [gA, gB, gC, Act.put, sA, sB, sC]
                refine hSk 48 rfl ?_
                try simp only [gA, gB, gC, Act.put, sA, sB, sC]
                refine hSk 49 rfl ?_
                try simp only [gA, gB, gC, Act.put, sA, sB, sC]
                refine hSk 50 rfl ?_
                try simp only [gA, gB, gC, Act.put, sA, sB, sC]
                refine hT 51 rfl (fun _ _ => by go_simp; all_goals with_reducible rfl) ?_
                try simp only [gA, gB, gC, Act.put, sA, sB, sC]
                refine hT 52 rfl (fun _ _ => by go_simp; all_goals with_reducible rfl) ?_
                try simp only [gA, gB, gC, Act.put, sA, sB, sC]
                refine wpAnyH_done (by kernel_rfl) ?_ _
                go_wp2
                go_meet
                case rel => exact ⟨by rw [HX.out]; rfl, hz4, hHeld.out⟩
              | true =>
                refine hT 32 rfl (fun _ _ => by go_simp; all_goals with_reducible rfl) ?_
                try simp only [gA, gB, gC, Act.put, sA, sB, sC]
                refine hT 33 rfl (fun _ _ => by go_simp; all_goals with_reducible rfl) ?_
                try simp only [gA, gB, gC, Act.put, sA, sB, sC]
                refine hT 34 rfl (fun _ _ => by go_simp; all_goals with_reducible rfl) ?_
                try simp only [gA, gB, gC, Act.put, sA, sB, sC]
                refine hT 35 rfl (fun wH hSw => by have cH := keepN hSw.out c0w; clear hSw; go_simp; all_goals with_reducible rfl) ?_
                try simp only [gA, gB, gC, Act.put, sA, sB, sC]
                refine hT 36 rfl (fun _ _ => by go_simp; all_goals with_reducible rfl) ?_
                try simp only [gA, gB, gC, Act.put, sA, sB, sC]
                refine hT 37 rfl (fun _ _ => by go_simp; all_goals with_reducible rfl) ?_
                try simp only [gA, gB, gC, Act.put, sA, sB, sC]
                refine hT 38 rfl (fun _ _ => by go_simp; all_goals with_reducible rfl) ?_
                try simp only [gA, gB, gC, Act.put, sA, sB, sC]
                refine hT 39 rfl (fun _ _ => by go_simp; all_goals with_reducible rfl) ?_
                try simp only [gA, gB, gC, Act.put, sA, sB, sC]
                refine hT 40 rfl (fun wH hSw => by have cH := keepN hSw.out c0w; clear hSw; go_simp; all_goals with_reducible rfl) ?_
                try simp only [gA, gB, gC, Act.put, sA, sB, sC]
                refine hT 41 rfl (fun _ _ => by go_simp; all_goals with_reducible rfl) ?_
                try simp only [gA, gB, gC, Act.put, sA, sB, sC]
                refine hT 42 rfl (fun _ _ => by go_simp; all_goals with_reducible rfl) ?_
                try simp only [gA, gB, gC, Act.put, sA, sB, sC]
                refine hT 43 rfl (fun _ _ => by go_simp; all_goals with_reducible rfl) ?_
                try simp only [gA, gB, gC, Act.put, sA, sB, sC]
                refine hT 44 rfl (fun wH hSw => by have cH := keepN hSw.out e9; clear hSw; go_simp; all_goals with_reducible rfl) ?_
                try simp only [gA, gB, gC, Act.put, sA, sB, sC]
                refine hT 48 rfl (fun _ _ => by go_simp; all_goals with_reducible rfl) ?_
                try simp only [gA, gB, gC, Act.put, sA, sB, sC]
                refine hR1 45 rfl fun K hK => ?_
                go_simp
                refine (hA2 _ hHeld.out).mono ?_
                rintro e w6 ⟨rfl, rfl⟩
                refine hK.out _ _ (Lib.hid (hHeld.out)) ?_; clear hK K hHeld; intro hHeld
                try simp only [gA, gB, gC, Act.put, sA, sB, sC]
                refine hT 46 rfl (fun _ _ => by go_simp; all_goals with_reducible rfl) ?_
                try simp only [gA, gB, gC, Act.put, sA, sB, sC]
                refine hTy 47 rfl (by kernel_rfl) (fun _ _ _ h => h) (by assumption) (yieldsIf_load_mid (by rfl) 83 (.tmp 86) rfl g (j * 13) rfl (ndC (d, vks j)) _ (fun wH hSw => hrowd wH hSw.out) Tryz.underlying83 rfl (by kernel_rfl)) ?_
                try simp only [gA, gB, gC, Act.put, sA, sB, sC]
                refine hR1 49 rfl fun K hK => ?_
                go_simp
                refine (hMp _).mono ?_
                rintro e w7 ⟨rfl, m7⟩
                have hz4 := hz4.mod3 m7
                refine hK.out _ _ (Lib.hid (hHeld.out.trans m7)) ?_; clear hK K hHeld; intro hHeld
                try simp only [gA, gB, gC, Act.put, sA, sB, sC]
                refine hT 50 rfl (fun _ _ => by go_simp; all_goals with_reducible rfl) ?_
                try simp only [gA, gB, gC, Act.put, sA, sB, sC]
                refine hT 51 rfl (fun _ _ => by go_simp; all_goals with_reducible rfl) ?_
                try simp only [gA, gB, gC, Act.put, sA, sB, sC]
                refine hT 52 rfl (fun _ _ => by go_simp; all_goals with_reducible rfl) ?_
                try simp only [gA, gB, gC, Act.put, sA, sB, sC]
                refine wpAnyH_done (by kernel_rfl) ?_ _
                go_wp2
                go_meet
                case rel => exact ⟨by rw [HX.out]; rfl, hz4, hHeld.out⟩
      case rest =>
        obtain ⟨rfl, hz, HM⟩ := hcut
        clear hz4
        cases X with
        | true =>
          have he : openE T n m who = 182 := HE4.out
          have HV : Hid (openT T p m who now = (T, Qi.zero, 182)) := by show _ = _; rw [HS2.out, he]; rfl
          clear HS2 HE4 he
          go_upto_region 10 with (fail)
          refine wp_region_lit ?_
          refine wpList_plain rfl fun K hK => ?_
          go_simp
          refine hK _ _ ?_
          clear hK K
          refine wpl_store_row rfl 35 (.tmp 10) (.tmp 93) rfl rfl w.heap.size (qiC Qi.zero) rfl rfl 35 _ hz rfl (qi_one _) (by kernel_rfl) ?_
          intro V9 hv9 mv9
          refine wpList_plain rfl fun K hK => ?_
          go_simp
          refine hK _ _ ?_
          clear hK K
          refine wpList_nil ?_
          have MV : Hid (Mod (fun _ => False) w V9) := (HM.out).trans' mv9 fun k hk e => by omega
          go_wp2
          refine bodyPost_ret (results_cell2 rfl _ _ V9 w.heap.size (qiC Qi.zero) _ rfl (qi_rng hv9) Tryz.underlying35 rfl (by kernel_rfl)) rfl ⟨by rw [HV.out]; rfl, by rw [HV.out]; exact H.out.mod MV.out (fun _ x => x.elim), MV.out.mono (fun _ _ x => x.elim)⟩
        | false =>
          have he : openE T n m who = 0 := HE4.out
          have HS3 : Hid (openT T p m who now = if q16 ≠ 0 ∧ n.data.size ≠ 0 then ({ T with L := updN T.L p fun n => Nd.touch { n with data := ByteArray.empty } who now }, qidOf (Nd.touch { n with data := ByteArray.empty } who now), 0) else (T, qidOf n, 0)) := by show _ = _; rw [HS2.out, he]; rfl
          have hRc := H.out.mod HM.out (fun _ x => x.elim)
          have c0 := hRc.rv.c0
          have e11 : wc.cell? ⟨g, i * 13 + 11, none⟩ = some (.string n.data) := hRc.rv.el i n hn 11 _ rfl
          have z11 : wc.frozen? ⟨g, i * 13 + 11, none⟩ = false := hRc.free hil (by decide)
          have hgw : g < w.heap.size := H.out.lt g H.out.fg
          clear HS2 HE4 he hA2 hNe hMa hM2 hMp hrow hrowd
          by_cases hcut : c16 = true ∧ n.data.size ≠ 0
          · obtain ⟨rfl, hdz⟩ := hcut
            have qE : n.data.toList.isEmpty = false := by rw [empty_beq]; simpa using hdz
            have hq16 : q16 ≠ 0 := by have := HC.out; simpa using this
            have HV : Hid (openT T p m who now = ({ T with L := T.L.set i (Nd.touch { n with data := ByteArray.empty } who now) }, qidOf (Nd.touch { n with data := ByteArray.empty } who now), 0)) := by
              show _ = _
              rw [HS3.out, if_pos ⟨hq16, hdz⟩, stat_upd hwf.rise hi hn]
            obtain ⟨W1, hW1⟩ : ∃ W1, wc.setCell ⟨g, i * 13 + 11, none⟩ (.string { data := #[] }) = W1 := ⟨_, rfl⟩
            obtain ⟨h1, m1⟩ := hRc.set (n' := { n with data := ByteArray.empty }) hn rfl 11 (.string { data := #[] }) (by decide) rfl
            rw [hW1] at h1 m1
            have hTo := rtouch_any F b g cap _ vks p i { n with data := ByteArray.empty } who now W1 h1 (by show (T.L.set i _).length ≤ 1024; rw [List.length_set]; exact hl) (idx_set hi hn rfl) (get_set hil) hno.ver
            have hz1 : ZAt W1 w.heap.size := (m1.block _ (lt_of hz) (fun e => by omega)).trans hz
            have HM1 : Hid (Mod F w W1) := (HM.out.mono fun _ _ x => x.elim).trans (m1.mono fun k _ e => by rw [e]; exact H.out.fg)
            clear HS3 hRc h1
            simp only [List.set_set] at hTo
            go_wp2_with fail
            refine hTo.mono ?_
            rintro e w3 ⟨rfl, h3, m3⟩
            have hz3 : ZAt w3 w.heap.size := (m3.block _ (lt_of hz1) (fun e => by omega)).trans hz1
            have HM3 : Hid (Mod F w w3) := HM1.out.trans (m3.mono fun k _ e => by rw [e]; exact H.out.fg)
            have hlen : (T.L.set i (Nd.touch { n with data := ByteArray.empty } who now)).length = T.L.length := List.length_set
            have c0 : w3.cell? ⟨b, 0, none⟩ = some (.slice (some ⟨g, 0, none⟩) T.L.length cap) := by rw [← hlen]; exact h3.rv.c0
            have hre := h3.rv.elem (i := i) (get_set hil)
            have HR3 := Lib.hid h3
            have hq := rqid_any (Nd.touch { n with data := ByteArray.empty } who now) (vks i) w3
            have hln2 := ndC_len (Nd.touch { n with data := ByteArray.empty } who now, vks i)
            generalize Nd.touch { n with data := ByteArray.empty } who now = n2 at *
            clear hTo h3 m3 m1 hW1 hlen
            go_wp2_with (refine wpList_load_mid rfl 83 (.tmp 123) rfl g (i * 13) rfl (ndC (n2, vks i)) _ hre Tryz.underlying83 rfl (by kernel_rfl) ?_)
            refine hq.mono ?_
            rintro e w4 ⟨rfl, m4⟩
            have hz4 := hz3.mod3 m4
            go_wp2_with (refine wpl_store_row rfl 35 (.tmp 10) (.tmp 125) rfl rfl w.heap.size (qiC (qidOf n2)) rfl rfl 35 _ hz4 rfl (qi_one _) (by kernel_rfl) ?_; intro V9 hv9 mv9)
            have M9 : Hid (Mod F w V9) := ((HM3.out).trans (m4.mono fun _ _ x => x.elim)).trans' mv9 fun k hk e => by omega
            have R9 := ((HR3.out).mod m4 (fun _ x => x.elim)).mod mv9 (fun k e x => by have := H.out.lt k x; omega)
            refine bodyPost_ret (results_cell2 rfl _ _ V9 w.heap.size (qiC (qidOf n2)) _ rfl (qi_rng hv9) Tryz.underlying35 rfl (by kernel_rfl)) rfl ⟨by rw [HV.out]; rfl, by rw [HV.out]; exact R9, M9.out⟩
          · have HV : Hid (openT T p m who now = (T, qidOf n, 0)) := by
              show _ = _
              rw [HS3.out, if_neg]
              rintro ⟨h1, h2⟩
              refine hcut ⟨?_, h2⟩
              rw [← HC.out]
              simpa using h1
            have hre := hRc.rv.elem hn
            have hq := rqid_any n (vks i) wc
            have HR3 := Lib.hid hRc
            have HM3 : Hid (Mod F w wc) := HM.out.mono fun _ _ x => x.elim
            clear HS3 hRc
            cases c16 with
            | false =>
              clear hcut
              go_wp2_with (refine wpList_load_mid rfl 83 (.tmp 123) rfl g (i * 13) rfl (ndC (n, vks i)) _ hre Tryz.underlying83 rfl (by kernel_rfl) ?_)
              refine hq.mono ?_
              rintro e w4 ⟨rfl, m4⟩
              have hz4 := hz.mod3 m4
              go_wp2_with (refine wpl_store_row rfl 35 (.tmp 10) (.tmp 125) rfl rfl w.heap.size (qiC (qidOf n)) rfl rfl 35 _ hz4 rfl (qi_one _) (by kernel_rfl) ?_; intro V9 hv9 mv9)
              have M9 : Hid (Mod F w V9) := ((HM3.out).trans (m4.mono fun _ _ x => x.elim)).trans' mv9 fun k hk e => by omega
              have R9 := ((HR3.out).mod m4 (fun _ x => x.elim)).mod mv9 (fun k e x => by have := H.out.lt k x; omega)
              refine bodyPost_ret (results_cell2 rfl _ _ V9 w.heap.size (qiC (qidOf n)) _ rfl (qi_rng hv9) Tryz.underlying35 rfl (by kernel_rfl)) rfl ⟨by rw [HV.out]; rfl, by rw [HV.out]; exact R9, M9.out⟩
            | true =>
              have hdz : n.data.size = 0 := by by_cases h : n.data.size = 0; exact h; exact absurd ⟨rfl, h⟩ hcut
              have qE : n.data.toList.isEmpty = true := by rw [empty_beq]; simpa using hdz
              clear hcut hdz
              go_wp2_with (refine wpList_load_mid rfl 83 (.tmp 123) rfl g (i * 13) rfl (ndC (n, vks i)) _ hre Tryz.underlying83 rfl (by kernel_rfl) ?_)
              refine hq.mono ?_
              rintro e w4 ⟨rfl, m4⟩
              have hz4 := hz.mod3 m4
              go_wp2_with (refine wpl_store_row rfl 35 (.tmp 10) (.tmp 125) rfl rfl w.heap.size (qiC (qidOf n)) rfl rfl 35 _ hz4 rfl (qi_one _) (by kernel_rfl) ?_; intro V9 hv9 mv9)
              have M9 : Hid (Mod F w V9) := ((HM3.out).trans (m4.mono fun _ _ x => x.elim)).trans' mv9 fun k hk e => by omega
              have R9 := ((HR3.out).mod m4 (fun _ x => x.elim)).mod mv9 (fun k e x => by have := H.out.lt k x; omega)
              refine bodyPost_ret (results_cell2 rfl _ _ V9 w.heap.size (qiC (qidOf n)) _ rfl (qi_rng hv9) Tryz.underlying35 rfl (by kernel_rfl)) rfl ⟨by rw [HV.out]; rfl, by rw [HV.out]; exact R9, M9.out⟩
end Go.Proofs.YtkcnbbjmkkaolaaGreatDoor
