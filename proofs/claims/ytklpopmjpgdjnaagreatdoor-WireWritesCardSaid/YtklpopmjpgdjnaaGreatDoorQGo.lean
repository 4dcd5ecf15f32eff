/- The document's alone, walked.
   The document's plain.
   The document's Encode, walked. -/
import Derived.Test.YtklpopmjpgdjnaaGreatDoorQGn
import Derived.Test.YtklpopmjpgdjnaaGreatDoorQRefFl
import Derived.Deep.DeepCutAuto
set_option linter.unusedVariables false
set_option linter.unusedSimpArgs false
namespace Go.Proofs.YtklpopmjpgdjnaaGreatDoor
open Go.RowKit

theorem fname_inj (f g : Fld) : ((fname f).toList == (fname g).toList) = decide (f = g) := by
  have h : ∀ f g : Fld, ((fname f).toList == (fname g).toList) = decide (f = g) := by
    intro f g
    cases f <;> cases g <;> kernel_rfl
  exact h f g
def own24 (m : Msg) : List Fld := (fieldsOf m.ty).getD []
theorem own_get {m : Msg} {q : Nat} (h : q < (own24 m).length) : (fldsV m.ty)[q]? = some (.string (fname (own24 m)[q])) := by
  unfold fldsV
  show ((own24 m).map fun f => Value.string (fname f))[q]? = _
  rw [List.getElem?_map, List.getElem?_eq_getElem h]; rfl
theorem own_len (m : Msg) : (own24 m).length ≤ 4 := by
  unfold own24
  cases h : fieldsOf m.ty with
  | none => exact Nat.zero_le _
  | some l => exact fieldsOf_len h
set_option maxHeartbeats 4000000 in
set_option maxRecDepth 100000 in
theorem alone24_any (m : Msg) (vn vq : Value) (P : Nat → Prop) (w : World) (hk : m.Ok) (hn : SlAt w P vn (m.names.map .string)) (hq : RecsAt Qd.cells 3 w P vq m.qids) :
    Calls Tryz.prog 45 #[.agg (m.cells vn vq).toArray] w fun e w' => e = .returned (.bool (aloneM m)) ∧ Mod (fun _ => False) w w' := by
  obtain ⟨W, hW⟩ : ∃ W, w.alloc (.cells (m.cells vn vq).toArray 33) = W := ⟨_, rfl⟩
  have hb : W.heap[w.heap.size]? = some (msgO m vn vq) := by subst hW; exact new_at _ _
  have m0 : Mod (fun _ => False) w W := by subst hW; exact (Mod.refl _ w).alloc _
  have HN := Lib.hid (hn.mod m0 fun _ _ _ x => x)
  have HQ := Lib.hid (hq.mod m0 fun _ _ _ x => x)
  have HB := Lib.hid hb
  have M0 := Lib.hid m0
  have hNm := rnames_any W
  have hty := hk.ty
  have hol := own_len m
  clear hb m0 hn hq
  go_enter Tryz.func45, Tryz.ntmps45
  go_wp2_with fail
  refine hNm.mono ?_
  rintro e w1 ⟨g, rfl, hg, m1⟩
  have HB1 := Lib.hid ((m1.block _ (lt_of HB.out) (fun x => x)).trans HB.out)
  have c0 : w1.cell? ⟨w.heap.size, 0, none⟩ = some (.int .u8 m.ty) := (cell_of HB1.out 0).trans rfl
  have hF := fields24_any m.ty w1 hty
  have HG := Lib.hid hg
  have M1 := Lib.hid m1
  clear hNm hg m1 hW HB1
  go_wp2_with fail
  refine hF.mono ?_
  rintro e w2 ⟨v, rfl, hsl, m2⟩
  have hfm := hsl.form
  rw [show (fldsV m.ty).length = (own24 m).length from List.length_map _] at hfm
  obtain ⟨ao, co, rfl, hco, hx⟩ := hfm
  have HG2 := Lib.hid ((m2.block _ (lt_of HG.out) (fun x => x)).trans HG.out)
  have M2 := Lib.hid (M1.out.trans m2)
  clear hF hsl HG M1 m2 c0
  go_wp2
  go_loopw [5, 6, 7] (fun i _ _ wr => ∃ j : Nat, j ≤ 20 ∧ i = .int .i64 j ∧ Hid (∀ f ∈ allF.take j, ((own24 m).contains f || zeroF m f) = true) ∧ Hid (Mod (fun _ => False) w2 wr)) (fun i _ _ _ => 20 - (intOf i).toNat)
  case atStart => exact ⟨0, Nat.zero_le _, rfl, Lib.hid (fun f h => by simp at h), Lib.hid (Mod.refl _ _)⟩
  case round =>
    obtain ⟨j, hj, rfl, HJ, MM⟩ := hrel
    by_cases hjl : j < 20
    · obtain ⟨f, hf, hv⟩ := namesV_get hjl
      have hgr := (MM.out.block _ (lt_of HG2.out) (fun x => x)).trans HG2.out
      have e1 : wr.cell? ⟨g, j, none⟩ = some (.string (fname f)) := by rw [cell_of hgr, List.getElem?_toArray]; exact hv
      have t1 : decide ((j : Int) < 20) = true := by simp; omega
      have j1 : (0 : Int) ≤ (j : Int) := by omega
      have j2 : (j : Int) < 20 := by omega
      clear hgr hv
      go_wp2
      go_loopw [6, 7] (fun hv k wi => ∃ q : Nat, q ≤ (own24 m).length ∧ k = .int .i64 q ∧ hv = .bool (((own24 m).take q).contains f) ∧ Hid (Mod (fun _ => False) wr wi)) (fun _ k _ => (own24 m).length - (intOf k).toNat)
      case atStart => exact ⟨0, Nat.zero_le _, rfl, rfl, Lib.hid (Mod.refl _ _)⟩
      case round =>
        obtain ⟨q, hq, rfl, rfl, MI⟩ := hrel
        have e1 := keepR MI.out e1
        by_cases hql : q < (own24 m).length
        · obtain ⟨go_, oo, rfl, _, hgo, hco0⟩ := hx q _ (own_get hql)
          have e2 := keepR ((MM.out.trans MI.out)) hco0
          have t2 : decide ((q : Int) < ((own24 m).length : Int)) = true := by simp; omega
          have k1 : (0 : Int) ≤ (q : Int) := by omega
          have k2 : (q : Int) < ((own24 m).length : Int) := by omega
          have HS : Hid (((own24 m).take (q + 1)).contains f = (((own24 m).take q).contains f || decide ((own24 m)[q] = f))) := by
            show _ = _
            rw [List.take_succ_eq_append_getElem hql, Bool.eq_iff_iff]
            simp only [List.contains_iff_mem, List.mem_append, List.mem_singleton, Bool.or_eq_true, decide_eq_true_eq]
            exact or_congr Iff.rfl eq_comm
          have hin := fname_inj (own24 m)[q] f
          generalize (own24 m)[q] = o at *
          generalize decide (o = f) = d at *
          cases hc : ((own24 m).take q).contains f with
          | true =>
            rw [hc] at HS
            clear hco0
            go_wp2
            go_quiet (fail)
            go_wp2
            go_roundw
            case rel => exact ⟨q + 1, hql, by go_num, by rw [HS.out]; rfl, by first | exact MI.out | exact MI.out.drewN _ | exact MI.out.drew⟩
            case measure => simp [intOf]; omega
          | false =>
            rw [hc] at HS
            clear hco0
            go_wp2
            go_quiet (fail)
            go_wp2
            go_roundw
            case rel => exact ⟨q + 1, hql, by go_num, by rw [HS.out]; rfl, by first | exact MI.out | exact MI.out.drewN _ | exact MI.out.drew⟩
            case measure => simp [intOf]; omega
        · obtain rfl : q = (own24 m).length := by omega
          have t2 : decide (((own24 m).length : Int) < ((own24 m).length : Int)) = false := by simp
          rw [List.take_length]
          have hrz := (M2.out.trans MM.out).trans MI.out
          have HJ2 : Hid (((own24 m).contains f || zeroF m f) = true → ∀ f ∈ allF.take (j + 1), ((own24 m).contains f || zeroF m f) = true) := fun h x hx => by
            obtain ⟨h1, h2⟩ := List.getElem?_eq_some_iff.1 hf
            rw [List.take_succ_eq_append_getElem h1, h2] at hx
            rcases List.mem_append.1 hx with h3 | h3
            · exact HJ.out x h3
            · rw [List.mem_singleton.1 h3]; exact h
          have HF : Hid (((own24 m).contains f || zeroF m f) = false → aloneM m = false) := fun h => by
            unfold aloneM
            rw [List.all_eq_false]
            exact ⟨f, List.mem_of_getElem? hf, by show ¬ ((own24 m).contains f || zeroF m f) = true; rw [h]; simp⟩
          have MJ := Lib.hid (MM.out.trans MI.out)
          clear HJ hf
          cases hc : (own24 m).contains f with
          | true =>
            have HJ3 := Lib.hid (HJ2.out (by rw [hc]; rfl))
            clear HJ2 HF
            go_wp2
            go_quiet (fail)
            go_wp2
            go_roundw
            case rel => exact ⟨j + 1, by omega, by go_num, HJ3, by first | exact MJ.out | exact MJ.out.drewN _ | exact MJ.out.drew⟩
            case measure => simp [intOf]; omega
          | false =>
            have hZ := fun U (hU : Mod (fun _ => False) W U) => zero24_any f m vn vq P U (HN.out.mod hU fun _ _ _ x => x) (HQ.out.mod hU fun _ _ _ x => x)
            have hA := (hrz.block _ (lt_of HB.out) (fun x => x)).trans HB.out
            have hrA : wr.drew.rangeAt w.heap.size 0 (m.cells vn vq) := fun j u hu => by rw [Nat.zero_add, cell_of (w := wr.drew) hA, List.getElem?_toArray]; exact hu
            have e1d : wr.drew.cell? ⟨g, j, none⟩ = some (.string (fname f)) := e1
            have HZ := Lib.hid hrz
            rw [hc, Bool.false_or] at HJ2 HF
            clear hA hrz
            cases hz : zeroF m f with
            | true =>
              rw [hz] at hZ
              have HJ3 := Lib.hid (HJ2.out hz)
              clear HJ2 HF hz
              go_wp2
              refine wp_region_any (by kernel_rfl) ?_
              change wpAny _ _ _ _ _ _ _ (World.drew _)
              refine wpAny_take (i := 0) (v := ?_) rfl (by kernel_rfl) (by kernel_rfl) (by kernel_rfl) (fun _ _ _ h => h) (Or.inl ⟨by rfl, ?_⟩) ?_
              rotate_left
              · intro w; go_simp
                all_goals with_reducible rfl
              refine wpAny_take (i := 1) (v := ?_) rfl (by kernel_rfl) (by kernel_rfl) (by kernel_rfl) (fun _ _ _ h => h) (Or.inl ⟨by rfl, ?_⟩) ?_
              rotate_left
              · intro w; go_simp
                all_goals with_reducible rfl
              refine wpAny_take (i := 2) (v := ?_) rfl (by kernel_rfl) (by kernel_rfl) (by kernel_rfl) (fun _ _ _ h => h) (Or.inl ⟨by rfl, ?_⟩) ?_
              rotate_left
              · intro w; go_simp
                all_goals with_reducible rfl
              try simp only [List.getElem_toArray, List.getElem_cons_succ, List.getElem_cons_zero, Act.put, List.setIfInBounds_toArray, List.set_cons_zero, List.set_cons_succ]
              refine wpAny_take (i := 4) (v := ?_) rfl (by kernel_rfl) (by kernel_rfl) (by kernel_rfl) (fun _ _ _ h => h) (Or.inl ⟨by rfl, ?_⟩) ?_
              rotate_left
              · intro w; go_simp
                all_goals with_reducible rfl
              try simp only [List.getElem_toArray, List.getElem_cons_succ, List.getElem_cons_zero, Act.put, List.setIfInBounds_toArray, List.set_cons_zero, List.set_cons_succ]
              refine wpAny_take (i := 5) (v := ?_) rfl (by kernel_rfl) (by kernel_rfl) (by kernel_rfl) (fun _ _ _ h => h) (Or.inl ⟨by rfl, ?_⟩) ?_
              rotate_left
              · intro w; go_simp
                all_goals with_reducible rfl
              try simp only [List.getElem_toArray, List.getElem_cons_succ, List.getElem_cons_zero, Act.put, List.setIfInBounds_toArray, List.set_cons_zero, List.set_cons_succ]
              refine wpAny_take (i := 6) (v := ?_) rfl (by kernel_rfl) (by kernel_rfl) (by kernel_rfl) (fun _ _ _ h => h) (Or.inl ⟨by rfl, ?_⟩) ?_
              rotate_left
              · intro w; go_simp
                all_goals with_reducible rfl
              try simp only [List.getElem_toArray, List.getElem_cons_succ, List.getElem_cons_zero, Act.put, List.setIfInBounds_toArray, List.set_cons_zero, List.set_cons_succ]
              refine wpAny_ready (rs := [3, 7]) (by kernel_rfl) (by simp) ?_
              refine AllReady.cons rfl (fun K hK => ?_) ?_
              rotate_left
              refine AllReady.cons rfl (fun K hK => ?_) AllReady.nil
              · go_simp
                refine hK _ _ ?_
                clear hK K
                refine wpAny_ready (rs := [3]) (by kernel_rfl) (by simp) ?_
                refine AllReady.cons rfl (fun K hK => ?_) AllReady.nil
                try simp only [List.getElem_toArray, List.getElem_cons_succ, List.getElem_cons_zero, Act.put, List.setIfInBounds_toArray, List.set_cons_zero, List.set_cons_succ]
                first | (rw [if_pos (by rfl)]) | skip
                refine wp_load_mid 33 (.tmp 1) rfl w.heap.size 0 rfl (m.cells vn vq) _ hrA Tryz.underlying33 rfl (by kernel_rfl) ?_
                refine hK _ _ ?_
                clear hK K
                try simp only [List.getElem_toArray, List.getElem_cons_succ, List.getElem_cons_zero, Act.put, List.setIfInBounds_toArray, List.set_cons_zero, List.set_cons_succ]
                refine wpAny_ready (rs := [8]) (by kernel_rfl) (by simp) ?_
                refine AllReady.cons rfl (fun K hK => ?_) AllReady.nil
                go_simp
                refine (hZ _ (HZ.out.drew)).mono ?_
                rintro e w4 ⟨rfl, m4⟩
                refine hK _ _ ?_
                clear hK K
                try simp only [List.getElem_toArray, List.getElem_cons_succ, List.getElem_cons_zero, Act.put, List.setIfInBounds_toArray, List.set_cons_zero, List.set_cons_succ]
                refine wpAny_take (i := 9) (v := ?_) rfl (by kernel_rfl) (by kernel_rfl) (by kernel_rfl) (fun _ _ _ h => h) (Or.inl ⟨by rfl, ?_⟩) ?_
                rotate_left
                · intro w; go_simp
                  all_goals with_reducible rfl
                try simp only [List.getElem_toArray, List.getElem_cons_succ, List.getElem_cons_zero, Act.put, List.setIfInBounds_toArray, List.set_cons_zero, List.set_cons_succ]
                refine wpAny_take (i := 10) (v := ?_) rfl (by kernel_rfl) (by kernel_rfl) (by kernel_rfl) (fun _ _ _ h => h) (Or.inl ⟨by rfl, ?_⟩) ?_
                rotate_left
                · intro w; go_simp
                  all_goals with_reducible rfl
                try simp only [List.getElem_toArray, List.getElem_cons_succ, List.getElem_cons_zero, Act.put, List.setIfInBounds_toArray, List.set_cons_zero, List.set_cons_succ]
                refine wpAny_done (by kernel_rfl) ?_ _
                go_wp2
                (go_roundw; (case measure => simp [intOf]; omega); (case rel => exact ⟨j + 1, by omega, by go_num, HJ3, (MJ.out.trans m4.ofDrew)⟩))
              · try simp only [List.getElem_toArray, List.getElem_cons_succ, List.getElem_cons_zero, Act.put, List.setIfInBounds_toArray, List.set_cons_zero, List.set_cons_succ]
                first | (rw [if_pos (by rfl)]) | skip
                refine wp_load_mid 33 (.tmp 1) rfl w.heap.size 0 rfl (m.cells vn vq) _ hrA Tryz.underlying33 rfl (by kernel_rfl) ?_
                refine hK _ _ ?_
                clear hK K
                try simp only [List.getElem_toArray, List.getElem_cons_succ, List.getElem_cons_zero, Act.put, List.setIfInBounds_toArray, List.set_cons_zero, List.set_cons_succ]
                refine wpAny_ready (rs := [7]) (by kernel_rfl) (by simp) ?_
                refine AllReady.cons rfl (fun K hK => ?_) AllReady.nil
                go_simp
                refine hK _ _ ?_
                clear hK K
                refine wpAny_ready (rs := [8]) (by kernel_rfl) (by simp) ?_
                refine AllReady.cons rfl (fun K hK => ?_) AllReady.nil
                go_simp
                refine (hZ _ (HZ.out.drew)).mono ?_
                rintro e w4 ⟨rfl, m4⟩
                refine hK _ _ ?_
                clear hK K
                try simp only [List.getElem_toArray, List.getElem_cons_succ, List.getElem_cons_zero, Act.put, List.setIfInBounds_toArray, List.set_cons_zero, List.set_cons_succ]
                refine wpAny_take (i := 9) (v := ?_) rfl (by kernel_rfl) (by kernel_rfl) (by kernel_rfl) (fun _ _ _ h => h) (Or.inl ⟨by rfl, ?_⟩) ?_
                rotate_left
                · intro w; go_simp
                  all_goals with_reducible rfl
                try simp only [List.getElem_toArray, List.getElem_cons_succ, List.getElem_cons_zero, Act.put, List.setIfInBounds_toArray, List.set_cons_zero, List.set_cons_succ]
                refine wpAny_take (i := 10) (v := ?_) rfl (by kernel_rfl) (by kernel_rfl) (by kernel_rfl) (fun _ _ _ h => h) (Or.inl ⟨by rfl, ?_⟩) ?_
                rotate_left
                · intro w; go_simp
                  all_goals with_reducible rfl
                try simp only [List.getElem_toArray, List.getElem_cons_succ, List.getElem_cons_zero, Act.put, List.setIfInBounds_toArray, List.set_cons_zero, List.set_cons_succ]
                refine wpAny_done (by kernel_rfl) ?_ _
                go_wp2
                (go_roundw; (case measure => simp [intOf]; omega); (case rel => exact ⟨j + 1, by omega, by go_num, HJ3, (MJ.out.trans m4.ofDrew)⟩))
            | false =>
              rw [hz] at hZ
              have HF3 := Lib.hid (HF.out hz)
              clear HJ2 HF hz
              go_wp2
              refine wp_region_any (by kernel_rfl) ?_
              change wpAny _ _ _ _ _ _ _ (World.drew _)
              refine wpAny_take (i := 0) (v := ?_) rfl (by kernel_rfl) (by kernel_rfl) (by kernel_rfl) (fun _ _ _ h => h) (Or.inl ⟨by rfl, ?_⟩) ?_
              rotate_left
              · intro w; go_simp
                all_goals with_reducible rfl
              refine wpAny_take (i := 1) (v := ?_) rfl (by kernel_rfl) (by kernel_rfl) (by kernel_rfl) (fun _ _ _ h => h) (Or.inl ⟨by rfl, ?_⟩) ?_
              rotate_left
              · intro w; go_simp
                all_goals with_reducible rfl
              refine wpAny_take (i := 2) (v := ?_) rfl (by kernel_rfl) (by kernel_rfl) (by kernel_rfl) (fun _ _ _ h => h) (Or.inl ⟨by rfl, ?_⟩) ?_
              rotate_left
              · intro w; go_simp
                all_goals with_reducible rfl
              try simp only [List.getElem_toArray, List.getElem_cons_succ, List.getElem_cons_zero, Act.put, List.setIfInBounds_toArray, List.set_cons_zero, List.set_cons_succ]
              refine wpAny_take (i := 4) (v := ?_) rfl (by kernel_rfl) (by kernel_rfl) (by kernel_rfl) (fun _ _ _ h => h) (Or.inl ⟨by rfl, ?_⟩) ?_
              rotate_left
              · intro w; go_simp
                all_goals with_reducible rfl
              try simp only [List.getElem_toArray, List.getElem_cons_succ, List.getElem_cons_zero, Act.put, List.setIfInBounds_toArray, List.set_cons_zero, List.set_cons_succ]
              refine wpAny_take (i := 5) (v := ?_) rfl (by kernel_rfl) (by kernel_rfl) (by kernel_rfl) (fun _ _ _ h => h) (Or.inl ⟨by rfl, ?_⟩) ?_
              rotate_left
              · intro w; go_simp
                all_goals with_reducible rfl
              try simp only [List.getElem_toArray, List.getElem_cons_succ, List.getElem_cons_zero, Act.put, List.setIfInBounds_toArray, List.set_cons_zero, List.set_cons_succ]
              refine wpAny_take (i := 6) (v := ?_) rfl (by kernel_rfl) (by kernel_rfl) (by kernel_rfl) (fun _ _ _ h => h) (Or.inl ⟨by rfl, ?_⟩) ?_
              rotate_left
              · intro w; go_simp
                all_goals with_reducible rfl
              try simp only [List.getElem_toArray, List.getElem_cons_succ, List.getElem_cons_zero, Act.put, List.setIfInBounds_toArray, List.set_cons_zero, List.set_cons_succ]
              refine wpAny_ready (rs := [3, 7]) (by kernel_rfl) (by simp) ?_
              refine AllReady.cons rfl (fun K hK => ?_) ?_
              rotate_left
              refine AllReady.cons rfl (fun K hK => ?_) AllReady.nil
              · go_simp
                refine hK _ _ ?_
                clear hK K
                refine wpAny_ready (rs := [3]) (by kernel_rfl) (by simp) ?_
                refine AllReady.cons rfl (fun K hK => ?_) AllReady.nil
                try simp only [List.getElem_toArray, List.getElem_cons_succ, List.getElem_cons_zero, Act.put, List.setIfInBounds_toArray, List.set_cons_zero, List.set_cons_succ]
                first | (rw [if_pos (by rfl)]) | skip
                refine wp_load_mid 33 (.tmp 1) rfl w.heap.size 0 rfl (m.cells vn vq) _ hrA Tryz.underlying33 rfl (by kernel_rfl) ?_
                refine hK _ _ ?_
                clear hK K
                try simp only [List.getElem_toArray, List.getElem_cons_succ, List.getElem_cons_zero, Act.put, List.setIfInBounds_toArray, List.set_cons_zero, List.set_cons_succ]
                refine wpAny_ready (rs := [8]) (by kernel_rfl) (by simp) ?_
                refine AllReady.cons rfl (fun K hK => ?_) AllReady.nil
                go_simp
                refine (hZ _ (HZ.out.drew)).mono ?_
                rintro e w4 ⟨rfl, m4⟩
                refine hK _ _ ?_
                clear hK K
                try simp only [List.getElem_toArray, List.getElem_cons_succ, List.getElem_cons_zero, Act.put, List.setIfInBounds_toArray, List.set_cons_zero, List.set_cons_succ]
                refine wpAny_take (i := 9) (v := ?_) rfl (by kernel_rfl) (by kernel_rfl) (by kernel_rfl) (fun _ _ _ h => h) (Or.inl ⟨by rfl, ?_⟩) ?_
                rotate_left
                · intro w; go_simp
                  all_goals with_reducible rfl
                try simp only [List.getElem_toArray, List.getElem_cons_succ, List.getElem_cons_zero, Act.put, List.setIfInBounds_toArray, List.set_cons_zero, List.set_cons_succ]
                refine wpAny_take (i := 10) (v := ?_) rfl (by kernel_rfl) (by kernel_rfl) (by kernel_rfl) (fun _ _ _ h => h) (Or.inl ⟨by rfl, ?_⟩) ?_
                rotate_left
                · intro w; go_simp
                  all_goals with_reducible rfl
                try simp only [List.getElem_toArray, List.getElem_cons_succ, List.getElem_cons_zero, Act.put, List.setIfInBounds_toArray, List.set_cons_zero, List.set_cons_succ]
                refine wpAny_done (by kernel_rfl) ?_ _
                go_wp2
                (go_ret; exact ⟨by rw [HF3.out]; rfl, ((M0.out.trans M2.out).trans MJ.out).trans m4.ofDrew⟩)
              · try simp only [List.getElem_toArray, List.getElem_cons_succ, List.getElem_cons_zero, Act.put, List.setIfInBounds_toArray, List.set_cons_zero, List.set_cons_succ]
                first | (rw [if_pos (by rfl)]) | skip
                refine wp_load_mid 33 (.tmp 1) rfl w.heap.size 0 rfl (m.cells vn vq) _ hrA Tryz.underlying33 rfl (by kernel_rfl) ?_
                refine hK _ _ ?_
                clear hK K
                try simp only [List.getElem_toArray, List.getElem_cons_succ, List.getElem_cons_zero, Act.put, List.setIfInBounds_toArray, List.set_cons_zero, List.set_cons_succ]
                refine wpAny_ready (rs := [7]) (by kernel_rfl) (by simp) ?_
                refine AllReady.cons rfl (fun K hK => ?_) AllReady.nil
                go_simp
                refine hK _ _ ?_
                clear hK K
                refine wpAny_ready (rs := [8]) (by kernel_rfl) (by simp) ?_
                refine AllReady.cons rfl (fun K hK => ?_) AllReady.nil
                go_simp
                refine (hZ _ (HZ.out.drew)).mono ?_
                rintro e w4 ⟨rfl, m4⟩
                refine hK _ _ ?_
                clear hK K
                try simp only [List.getElem_toArray, List.getElem_cons_succ, List.getElem_cons_zero, Act.put, List.setIfInBounds_toArray, List.set_cons_zero, List.set_cons_succ]
                refine wpAny_take (i := 9) (v := ?_) rfl (by kernel_rfl) (by kernel_rfl) (by kernel_rfl) (fun _ _ _ h => h) (Or.inl ⟨by rfl, ?_⟩) ?_
                rotate_left
                · intro w; go_simp
                  all_goals with_reducible rfl
                try simp only [List.getElem_toArray, List.getElem_cons_succ, List.getElem_cons_zero, Act.put, List.setIfInBounds_toArray, List.set_cons_zero, List.set_cons_succ]
                refine wpAny_take (i := 10) (v := ?_) rfl (by kernel_rfl) (by kernel_rfl) (by kernel_rfl) (fun _ _ _ h => h) (Or.inl ⟨by rfl, ?_⟩) ?_
                rotate_left
                · intro w; go_simp
                  all_goals with_reducible rfl
                try simp only [List.getElem_toArray, List.getElem_cons_succ, List.getElem_cons_zero, Act.put, List.setIfInBounds_toArray, List.set_cons_zero, List.set_cons_succ]
                refine wpAny_done (by kernel_rfl) ?_ _
                go_wp2
                (go_ret; exact ⟨by rw [HF3.out]; rfl, ((M0.out.trans M2.out).trans MJ.out).trans m4.ofDrew⟩)
    · obtain rfl : j = 20 := by omega
      have t1 : decide ((20 : Int) < 20) = false := by decide
      have HF : Hid (aloneM m = true) := by
        show _ = _
        unfold aloneM
        exact List.all_eq_true.2 fun f hf => HJ.out f hf
      go_wp2
      go_ret
      exact ⟨by rw [HF.out]; rfl, (M0.out.trans M2.out).trans MM.out⟩
end Go.Proofs.YtklpopmjpgdjnaaGreatDoor
namespace Go.Proofs.YtklpopmjpgdjnaaGreatDoor
open Go.RowKit

theorem hasZ_iff (s : ByteArray) : hasZ s = true ↔ ∃ k, ∃ h : k < s.size, s.data[k] = 0 := by
  unfold hasZ
  rw [decide_eq_true_eq]
  have hge := Lib.indexByte_ge s.data.toList 0
  constructor
  · intro h
    obtain ⟨o, ho⟩ : ∃ o : Nat, Lib.indexByte s.data.toList 0 = o := ⟨(Lib.indexByte s.data.toList 0).toNat, by omega⟩
    have := (Lib.indexByte_some ho).1
    obtain ⟨h1, h2⟩ := List.getElem?_eq_some_iff.1 this
    exact ⟨o, by rw [Array.length_toList] at h1; exact h1, by rw [Array.getElem_toList] at h2; exact h2⟩
  · rintro ⟨k, hk, h0⟩
    rcases (by omega : Lib.indexByte s.data.toList 0 = -1 ∨ 0 ≤ Lib.indexByte s.data.toList 0) with h | h
    · exfalso
      refine Lib.indexByte_none h k ?_
      rw [List.getElem?_eq_getElem (by rw [Array.length_toList]; exact hk), Array.getElem_toList, h0]
    · exact h
set_option maxHeartbeats 4000000 in
set_option maxRecDepth 100000 in
theorem rplain24_any (m : Msg) (vn vq : Value) (P : Nat → Prop) (w : World) (hs : m.Small) (hn : SlAt w P vn (m.names.map .string)) (hT : Tabs w) :
    Calls Tryz.prog 36 #[.agg (m.cells vn vq).toArray] w fun e w' => e = .returned (.bool (plainM m)) ∧ Mod (fun _ => False) w w' := by
  obtain ⟨W, hW⟩ : ∃ W, w.alloc (.cells (m.cells vn vq).toArray 33) = W := ⟨_, rfl⟩
  have hb : W.heap[w.heap.size]? = some (msgO m vn vq) := by subst hW; exact new_at _ _
  have m0 : Mod (fun _ => False) w W := by subst hW; exact (Mod.refl _ w).alloc _
  have hrg : W.rangeAt w.heap.size 0 (m.cells vn vq) := fun j u hu => by rw [Nat.zero_add, cell_of hb, List.getElem?_toArray]; exact hu
  have hlen : (m.cells vn vq).length = 36 := rfl
  have hTx := texts24_any m vn vq P W hs.nl (hn.mod m0 fun _ _ _ x => x)
  have hV : Hid (plainM m = (m.nine ++ m.names).all okT) := by show _ = _; rw [List.all_append]; rfl
  have hSm : ∀ s ∈ m.nine ++ m.names, s.size ≤ 262144 := by
    intro s h
    rcases List.mem_append.1 h with h | h
    · simp only [Msg.nine, List.mem_cons, List.not_mem_nil, or_false] at h
      rcases h with rfl | rfl | rfl | rfl | rfl | rfl | rfl | rfl | rfl
      · exact hs.version
      · exact hs.uname
      · exact hs.aname
      · exact hs.ename
      · exact hs.name
      · exact hs.st.1
      · exact hs.st.2.1
      · exact hs.st.2.2.1
      · exact hs.st.2.2.2
    · exact hs.names s h
  have hLl : (m.nine ++ m.names).length ≤ 1000009 := by rw [List.length_append]; have := hs.nl; show 9 + _ ≤ _; omega
  generalize m.nine ++ m.names = L at *
  have M0 := Lib.hid m0
  have HT := Lib.hid (hT.mod m0)
  clear hb m0 hT hn
  go_enter Tryz.func36, Tryz.ntmps36
  go_wp2_with (first
    | (refine wpList_load_mid rfl 33 (.tmp 1) rfl w.heap.size 0 rfl (m.cells vn vq) _ hrg Tryz.underlying33 rfl (by kernel_rfl) ?_)
    | (go_at_call 80; refine hTx.mono ?_; rintro e w1 ⟨v, rfl, hsl, m1⟩; have hfm := hsl.form; rw [List.length_map] at hfm; obtain ⟨a, c, rfl, hc, hx⟩ := hfm; have M1 := Lib.hid m1; clear hTx hrg m1 hsl hW))
  go_loopw [4, 5] (fun i _ wr => ∃ j : Nat, j ≤ L.length ∧ i = .int .i64 j ∧ Hid (∀ s ∈ L.take j, okT s = true) ∧ Hid (Mod (fun _ => False) w1 wr)) (fun i _ _ => L.length - (intOf i).toNat)
  case atStart => exact ⟨0, Nat.zero_le _, rfl, Lib.hid (fun s h => by simp at h), Lib.hid (Mod.refl _ _)⟩
  case round =>
    obtain ⟨j, hj, rfl, HJ, MM⟩ := hrel
    by_cases hjl : j < L.length
    · obtain ⟨g, off, rfl, _, hgl, hc0⟩ := hx j _ (strs_get hjl)
      have c0 := keepR MM.out hc0
      have t1 : decide ((j : Int) < (L.length : Int)) = true := by simp; omega
      have j1 : (0 : Int) ≤ (j : Int) := by omega
      have j2 : (j : Int) < (L.length : Int) := by omega
      have hsz := hSm _ (List.getElem_mem hjl)
      have hmem := List.getElem_mem hjl
      have HS := Lib.hid (show L.take (j + 1) = L.take j ++ [L[j]] from List.take_succ_eq_append_getElem hjl)
      generalize L[j] = s at *
      have hVd := valid_any s wr (by omega) ((HT.out.mod M1.out).mod MM.out)
      have HN : Hid (okT s = false → plainM m = false) := fun h => by
        rw [hV.out]
        exact List.all_eq_false.2 ⟨s, hmem, by rw [h]; simp⟩
      clear hc0
      cases hv : Lib.validD s.data.toList with
      | false =>
        rw [hv] at hVd
        have hF := HN.out (by unfold okT; rw [hv]; rfl)
        clear hv
        go_wp2_with fail
        refine hVd.mono ?_
        rintro e w2 ⟨rfl, m2⟩
        go_wp2
        go_ret
        exact ⟨by rw [hF]; rfl, ((M0.out.trans M1.out).trans MM.out).trans m2⟩
      | true =>
        rw [hv] at hVd
        go_wp2_with fail
        refine hVd.mono ?_
        rintro e w2 ⟨rfl, m2⟩
        have MM2 := Lib.hid (MM.out.trans m2)
        have c0 := keepR m2 c0
        clear hVd m2
        go_wp2
        go_loopw [5] (fun i wr => ∃ k : Nat, k ≤ s.size ∧ i = .int .i64 k ∧ Hid (∀ x, (h : x < s.size) → x < k → s.data[x] ≠ 0) ∧ wr = w2) (fun i _ => s.size - (intOf i).toNat)
        case atStart => exact ⟨0, Nat.zero_le _, rfl, Lib.hid (fun x h h2 => by omega), rfl⟩
        case round =>
          obtain ⟨k, hk, rfl, HK, rfl⟩ := hrel
          by_cases hkl : k < s.size
          · have t2 : decide ((k : Int) < (s.size : Int)) = true := by simp; omega
            have k1 : (0 : Int) ≤ (k : Int) := by omega
            have k2 : (k : Int) < (s.size : Int) := by omega
            by_cases h0 : s.data[k] = 0
            · have q : ((s[k].toNat : Int) == 0) = true := by
                rw [show s[k] = 0 from h0]; rfl
              have hF := HN.out (by unfold okT; rw [hv, (hasZ_iff s).2 ⟨k, hkl, h0⟩]; rfl)
              go_wp2
              go_ret
              exact ⟨by rw [hF]; rfl, (M0.out.trans M1.out).trans MM2.out⟩
            · have q : ((s[k].toNat : Int) == 0) = false := by
                have h1 : s[k].toNat ≠ 0 := fun e => h0 (UInt8.toNat_inj.1 e)
                rw [beq_eq_false_iff_ne]
                omega
              have HK2 : Hid (∀ x, (h : x < s.size) → x < k + 1 → s.data[x] ≠ 0) := fun x h h2 => by
                by_cases e : x = k
                · subst e; exact h0
                · exact HK.out x h (by omega)
              clear h0
              go_wp2
              go_roundw
              case rel => exact ⟨k + 1, hkl, by go_num, HK2, trivial⟩
              case measure => simp [intOf]; omega
          · obtain rfl : k = s.size := by omega
            have t2 : decide ((s.size : Int) < (s.size : Int)) = false := by simp
            have hz : hasZ s = false := by
              cases h : hasZ s with
              | false => rfl
              | true =>
                obtain ⟨x, h1, h2⟩ := (hasZ_iff s).1 h
                exact absurd h2 (HK.out x h1 h1)
            have HJ2 : Hid (∀ s ∈ L.take (j + 1), okT s = true) := by
              rw [HS.out]
              intro x hx
              rcases List.mem_append.1 hx with h | h
              · exact HJ.out x h
              · rw [List.mem_singleton.1 h]; unfold okT; rw [hv, hz]; rfl
            clear hz hv HK
            go_wp2
            go_roundw
            case rel => exact ⟨j + 1, hjl, by go_num, HJ2, MM2⟩
            case measure => simp [intOf]; omega
    · obtain rfl : j = L.length := by omega
      have t1 : decide ((L.length : Int) < (L.length : Int)) = false := by simp
      have HF : Hid (plainM m = true) := by
        show _ = _
        rw [hV.out]
        have h := HJ.out
        rw [List.take_length] at h
        exact List.all_eq_true.2 h
      go_wp2
      go_ret
      exact ⟨by rw [HF.out]; rfl, (M0.out.trans M1.out).trans MM.out⟩
end Go.Proofs.YtklpopmjpgdjnaaGreatDoor
namespace Go.Proofs.YtklpopmjpgdjnaaGreatDoor
open Go.RowKit

theorem n23v_any (v : Int) (n : Int) (w : World) (h0 : 0 ≤ v) (h1 : v < 18446744073709551616) (hn : 1 ≤ n) (h8 : n ≤ 8) :
    Calls Tryz.prog 46 #[.int .u64 v, .int .i64 n] w fun e w' => e = .returned (.string (bs (leBytes n.toNat v.toNat))) ∧ Mod (fun _ => False) w w' := by
  obtain ⟨x, rfl⟩ := Int.eq_ofNat_of_zero_le h0
  exact n23m_any x n w (by omega) hn h8
set_option maxHeartbeats 4000000 in
set_option maxRecDepth 100000 in
theorem renc24_any (m : Msg) (vn vq : Value) (P : Nat → Prop) (w : World) (hk : m.Ok) (hs : m.Small) (hn : SlAt w P vn (m.names.map .string)) (hq : RecsAt Qd.cells 3 w P vq m.qids) (hT : Tabs w) :
    Calls Tryz.prog 18 #[.agg (m.cells vn vq).toArray] w fun e w' => e = .returned (.tuple #[.string (encR m).1, .int .i64 (encR m).2]) ∧ Mod (fun _ => False) w w' := by
  obtain ⟨W, hW⟩ : ∃ W, w.alloc (.cells (m.cells vn vq).toArray 33) = W := ⟨_, rfl⟩
  have hb : W.heap[w.heap.size]? = some (msgO m vn vq) := by subst hW; exact new_at _ _
  have m0 : Mod (fun _ => False) w W := by subst hW; exact (Mod.refl _ w).alloc _
  have HN := Lib.hid (hn.mod m0 fun _ _ _ x => x)
  have HQ := Lib.hid (hq.mod m0 fun _ _ _ x => x)
  have HB := Lib.hid hb
  have M0 := Lib.hid m0
  have HT := Lib.hid (hT.mod m0)
  have hty := hk.ty
  have c0 : W.cell? ⟨w.heap.size, 0, none⟩ = some (.int .u8 m.ty) := (cell_of hb 0).trans rfl
  have hrW : W.rangeAt w.heap.size 0 (m.cells vn vq) := fun j u hu => by rw [Nat.zero_add, cell_of hb, List.getElem?_toArray]; exact hu
  have hKn := known24_any m.ty W hty
  have hAl := alone24_any m vn vq P W hk HN.out HQ.out
  clear hb m0 hn hq hT
  go_enter Tryz.func18, Tryz.ntmps18
  go_wp2_with fail
  refine hKn.mono ?_
  rintro e w1 ⟨rfl, rfl⟩
  clear hKn hW
  unfold knownB
  cases hfo : fieldsOf m.ty with
  | none =>
    have HV : Hid (encR m = (ByteArray.empty, 240)) := by show _ = _; unfold encR; rw [hfo]
    clear hAl hrW
    go_wp2
    go_ret2
    exact ⟨by rw [HV.out]; rfl, M0.out⟩
  | some l =>
    have hll := fieldsOf_len hfo
    have HVe : Hid (aloneM m = false → encR m = (ByteArray.empty, 2)) := fun h => by unfold encR; rw [hfo]; exact if_pos h
    have HVp : Hid (aloneM m = true → plainM m = false → encR m = (ByteArray.empty, 241)) := fun h1 h2 => by
      unfold encR
      rw [hfo]
      show (if _ then _ else _) = _
      rw [if_neg (by rw [h1]; simp), if_pos h2]
    have HVl : Hid (aloneM m = true → plainM m = true → encR m = finR m (refL m l ByteArray.empty)) := fun h1 h2 => by
      unfold encR
      rw [hfo]
      show (if _ then _ else if _ then _ else _) = _
      rw [if_neg (by rw [h1]; simp), if_neg (by rw [h2]; simp)]
    have hfv : fldsV m.ty = l.map fun f => Value.string (fname f) := by unfold fldsV; rw [hfo]; rfl
    clear hfo
    go_upto_region 3 with (fail)
    refine wp_region_lit ?_
    refine wpList_load_mid rfl 33 (.tmp 1) rfl w.heap.size 0 rfl (m.cells vn vq) _ hrW Tryz.underlying33 rfl (by kernel_rfl) ?_
    refine wpList_plain rfl fun K hK => ?_
    go_simp
    refine hAl.mono ?_
    rintro e w2 ⟨rfl, m2⟩
    refine hK _ _ ?_
    clear hK K hAl hrW
    have M2 := Lib.hid m2
    have hb2 := (m2.block _ (lt_of HB.out) (fun x => x)).trans HB.out
    have hrW : w2.rangeAt w.heap.size 0 (m.cells vn vq) := fun j u hu => by rw [Nat.zero_add, cell_of hb2, List.getElem?_toArray]; exact hu
    have hPl := rplain24_any m vn vq P w2 hs (HN.out.mod m2 fun _ _ _ x => x) (HT.out.mod m2)
    clear m2 hb2 c0
    cases he : aloneM m with
    | false =>
      have HV := Lib.hid (HVe.out he)
      clear HVe HVp HVl he hPl hrW
      go_wp2
      go_ret2
      exact ⟨by rw [HV.out]; rfl, M0.out.trans M2.out⟩
    | true =>
      have HVp2 := Lib.hid (HVp.out he)
      have HVl2 := Lib.hid (HVl.out he)
      clear HVe HVp HVl he
      go_upto_region 5 with (fail)
      refine wp_region_lit ?_
      refine wpList_load_mid rfl 33 (.tmp 1) rfl w.heap.size 0 rfl (m.cells vn vq) _ hrW Tryz.underlying33 rfl (by kernel_rfl) ?_
      refine wpList_plain rfl fun K hK => ?_
      go_simp
      refine hPl.mono ?_
      rintro e w3 ⟨rfl, m3⟩
      refine hK _ _ ?_
      clear hK K hPl hrW
      have M3 := Lib.hid (M2.out.trans m3)
      clear m3 M2
      cases hp : plainM m with
      | false =>
        have HV := Lib.hid (HVp2.out hp)
        clear HVp2 HVl2 hp
        go_wp2
        go_ret2
        exact ⟨by rw [HV.out]; rfl, M0.out.trans M3.out⟩
      | true =>
        have HVl := Lib.hid (HVl2.out hp)
        clear HVp2 HVl2 hp
        have c0 : w3.cell? ⟨w.heap.size, 0, none⟩ = some (.int .u8 m.ty) := (cell_of ((M3.out.block _ (lt_of HB.out) (fun x => x)).trans HB.out) 0).trans rfl
        have hF := fields24_any m.ty w3 hty
        rw [hfv] at hF
        go_wp2_with fail
        refine hF.mono ?_
        rintro e w5 ⟨v, rfl, hsl, m5⟩
        have hfm := hsl.form
        rw [List.length_map] at hfm
        obtain ⟨ao, co, rfl, hco, hx⟩ := hfm
        have M5 := Lib.hid (M3.out.trans m5)
        clear hF hsl hfv M3 m5 c0
        have hwr : ∀ f U, Mod (fun _ => False) w1 U → Calls Tryz.prog 38 #[.agg (m.cells vn vq).toArray, .string (fname f)] U (fun e w' => e = .returned (.tuple #[.string (wfB m f).1, .bool (wfB m f).2]) ∧ Mod (fun _ => False) U w') := fun f U hU => rwr_any f m _ _ P U hk hs (HN.out.mod hU fun _ _ _ x => x) (HQ.out.mod hU fun _ _ _ x => x)
        have HW := Lib.hid hwr
        have hszB := wfB_size hs
        have HSZ := Lib.hid hszB
        clear hwr hszB HN HQ
        go_wp2
        go_loopw [4, 6, 7, 8] (fun sv i _ _ wr => ∃ (j : Nat) (S : ByteArray), j ≤ l.length ∧ i = .int .i64 j ∧ sv = .string S ∧ S.size ≤ 8192 ∧ Hid (refL m l ByteArray.empty = refL m (l.drop j) S) ∧ Hid (Mod (fun _ => False) w5 wr)) (fun _ i _ _ _ => l.length - (intOf i).toNat)
        case atStart => exact ⟨0, ByteArray.empty, Nat.zero_le _, rfl, rfl, Nat.zero_le _, Lib.hid rfl, Lib.hid (Mod.refl _ _)⟩
        case round =>
          obtain ⟨j, S, hj, rfl, rfl, hS, HR, MM⟩ := hrel
          have MQ := Lib.hid (M5.out.trans MM.out)
          by_cases hjl : j < l.length
          · obtain ⟨g, oo, rfl, _, hgo, hc⟩ := hx j (.string (fname l[j])) (by rw [List.getElem?_map, List.getElem?_eq_getElem hjl]; rfl)
            have e1d : wr.drew.cell? ⟨g, oo + j, none⟩ = some (.string (fname l[j])) := keepR MM.out hc
            have HR2 : Hid (refL m l ByteArray.empty = if (wfB m l[j]).2 = false ∨ 8192 < S.size + (wfB m l[j]).1.size then none else refL m (l.drop (j + 1)) (S ++ (wfB m l[j]).1)) := by
              show _ = _
              rw [HR.out, List.drop_eq_getElem_cons hjl]
              rfl
            have t1 : decide ((j : Int) < (l.length : Int)) = true := by simp; omega
            have j1 : (0 : Int) ≤ (j : Int) := by omega
            have j2 : (j : Int) < (l.length : Int) := by omega
            have hwf := HW.out l[j]
            have hz := HSZ.out l[j]
            generalize (wfB m l[j]).1 = B at *
            generalize (wfB m l[j]).2 = y at *
            generalize l[j] = f at *
            have hA := (MQ.out.block _ (lt_of HB.out) (fun x => x)).trans HB.out
            have hrA : wr.drew.rangeAt w.heap.size 0 (m.cells vn vq) := fun j u hu => by rw [Nat.zero_add, cell_of (w := wr.drew) hA, List.getElem?_toArray]; exact hu
            clear hA HR hc
            go_wp2
            go_cut [7, 8] from 28 to 36 (fun xv yv wc => xv = .string B ∧ yv = .bool y ∧ Hid (Mod (fun _ => False) wr wc))
            case first =>
              refine wp_region_any (by kernel_rfl) ?_
              change wpAny _ _ _ _ _ _ _ (World.drew _)
              refine wpAny_take (i := 1) (v := ?_) rfl (by kernel_rfl) (by kernel_rfl) (by kernel_rfl) (fun _ _ _ h => h) (Or.inl ⟨by rfl, ?_⟩) ?_
              rotate_left
              · intro w; go_simp
                all_goals with_reducible rfl
              refine wpAny_take (i := 2) (v := ?_) rfl (by kernel_rfl) (by kernel_rfl) (by kernel_rfl) (fun _ _ _ h => h) (Or.inl ⟨by rfl, ?_⟩) ?_
              rotate_left
              · intro w; go_simp
                all_goals with_reducible rfl
              refine wpAny_take (i := 3) (v := ?_) rfl (by kernel_rfl) (by kernel_rfl) (by kernel_rfl) (fun _ _ _ h => h) (Or.inl ⟨by rfl, ?_⟩) ?_
              rotate_left
              · intro w; go_simp
                all_goals with_reducible rfl
              refine wpAny_ready (rs := [0, 4]) (by kernel_rfl) (by simp) ?_
              refine AllReady.cons rfl (fun K hK => ?_) ?_
              rotate_left
              refine AllReady.cons rfl (fun K hK => ?_) AllReady.nil
              · go_simp
                refine hK _ _ ?_
                clear hK K
                refine wpAny_ready (rs := [0]) (by kernel_rfl) (by simp) ?_
                refine AllReady.cons rfl (fun K hK => ?_) AllReady.nil
                try simp only [List.getElem_toArray, List.getElem_cons_succ, List.getElem_cons_zero, Act.put, List.setIfInBounds_toArray, List.set_cons_zero, List.set_cons_succ]
                refine wp_load_mid 33 (.tmp 1) rfl w.heap.size 0 rfl (m.cells vn vq) _ hrA Tryz.underlying33 rfl (by kernel_rfl) ?_
                refine hK _ _ ?_
                clear hK K
                try simp only [List.getElem_toArray, List.getElem_cons_succ, List.getElem_cons_zero, Act.put, List.setIfInBounds_toArray, List.set_cons_zero, List.set_cons_succ]
                refine wpAny_ready (rs := [5]) (by kernel_rfl) (by simp) ?_
                refine AllReady.cons rfl (fun K hK => ?_) AllReady.nil
                go_simp
                refine (hwf _ MQ.out.drew).mono ?_
                rintro e w4 ⟨rfl, m4⟩
                refine hK _ _ ?_
                clear hK K
                refine wpAny_take (i := 6) (v := ?_) rfl (by kernel_rfl) (by kernel_rfl) (by kernel_rfl) (fun _ _ _ h => h) (Or.inl ⟨by rfl, ?_⟩) ?_
                rotate_left
                · intro w; go_simp
                  all_goals with_reducible rfl
                refine wpAny_take (i := 7) (v := ?_) rfl (by kernel_rfl) (by kernel_rfl) (by kernel_rfl) (fun _ _ _ h => h) (Or.inl ⟨by rfl, ?_⟩) ?_
                rotate_left
                · intro w; go_simp
                  all_goals with_reducible rfl
                refine wpAny_take (i := 8) (v := ?_) rfl (by kernel_rfl) (by kernel_rfl) (by kernel_rfl) (fun _ _ _ h => h) (Or.inl ⟨by rfl, ?_⟩) ?_
                rotate_left
                · intro w; go_simp
                  all_goals with_reducible rfl
                refine wpAny_take (i := 9) (v := ?_) rfl (by kernel_rfl) (by kernel_rfl) (by kernel_rfl) (fun _ _ _ h => h) (Or.inl ⟨by rfl, ?_⟩) ?_
                rotate_left
                · intro w; go_simp
                  all_goals with_reducible rfl
                refine wpAny_take (i := 10) (v := ?_) rfl (by kernel_rfl) (by kernel_rfl) (by kernel_rfl) (fun _ _ _ h => h) (Or.inl ⟨by rfl, ?_⟩) ?_
                rotate_left
                · intro w; go_simp
                  all_goals with_reducible rfl
                refine wpAny_done (by kernel_rfl) ?_ _
                go_wp2
                go_meet
                case rel => exact ⟨rfl, rfl, m4.ofDrew⟩
              · try simp only [List.getElem_toArray, List.getElem_cons_succ, List.getElem_cons_zero, Act.put, List.setIfInBounds_toArray, List.set_cons_zero, List.set_cons_succ]
                refine wp_load_mid 33 (.tmp 1) rfl w.heap.size 0 rfl (m.cells vn vq) _ hrA Tryz.underlying33 rfl (by kernel_rfl) ?_
                refine hK _ _ ?_
                clear hK K
                try simp only [List.getElem_toArray, List.getElem_cons_succ, List.getElem_cons_zero, Act.put, List.setIfInBounds_toArray, List.set_cons_zero, List.set_cons_succ]
                refine wpAny_ready (rs := [4]) (by kernel_rfl) (by simp) ?_
                refine AllReady.cons rfl (fun K hK => ?_) AllReady.nil
                go_simp
                refine hK _ _ ?_
                clear hK K
                refine wpAny_ready (rs := [5]) (by kernel_rfl) (by simp) ?_
                refine AllReady.cons rfl (fun K hK => ?_) AllReady.nil
                go_simp
                refine (hwf _ MQ.out.drew).mono ?_
                rintro e w4 ⟨rfl, m4⟩
                refine hK _ _ ?_
                clear hK K
                refine wpAny_take (i := 6) (v := ?_) rfl (by kernel_rfl) (by kernel_rfl) (by kernel_rfl) (fun _ _ _ h => h) (Or.inl ⟨by rfl, ?_⟩) ?_
                rotate_left
                · intro w; go_simp
                  all_goals with_reducible rfl
                refine wpAny_take (i := 7) (v := ?_) rfl (by kernel_rfl) (by kernel_rfl) (by kernel_rfl) (fun _ _ _ h => h) (Or.inl ⟨by rfl, ?_⟩) ?_
                rotate_left
                · intro w; go_simp
                  all_goals with_reducible rfl
                refine wpAny_take (i := 8) (v := ?_) rfl (by kernel_rfl) (by kernel_rfl) (by kernel_rfl) (fun _ _ _ h => h) (Or.inl ⟨by rfl, ?_⟩) ?_
                rotate_left
                · intro w; go_simp
                  all_goals with_reducible rfl
                refine wpAny_take (i := 9) (v := ?_) rfl (by kernel_rfl) (by kernel_rfl) (by kernel_rfl) (fun _ _ _ h => h) (Or.inl ⟨by rfl, ?_⟩) ?_
                rotate_left
                · intro w; go_simp
                  all_goals with_reducible rfl
                refine wpAny_take (i := 10) (v := ?_) rfl (by kernel_rfl) (by kernel_rfl) (by kernel_rfl) (fun _ _ _ h => h) (Or.inl ⟨by rfl, ?_⟩) ?_
                rotate_left
                · intro w; go_simp
                  all_goals with_reducible rfl
                refine wpAny_done (by kernel_rfl) ?_ _
                go_wp2
                go_meet
                case rel => exact ⟨rfl, rfl, m4.ofDrew⟩
            case rest =>
            obtain ⟨rfl, rfl, MC⟩ := hcut
            have MM2 := Lib.hid (MM.out.trans MC.out)
            clear hrA e1d hwf MM MQ
            cases y with
            | false =>
              have HV : Hid (encR m = (ByteArray.empty, 4)) := by show _ = _; rw [HVl.out, HR2.out, if_pos (Or.inl rfl)]; rfl
              clear HVl HR2
              go_wp2
              go_ret2
              exact ⟨by rw [HV.out]; rfl, (M0.out.trans M5.out).trans MM2.out⟩
            | true =>
              by_cases h8 : 8192 < S.size + B.size
              · have t8 : decide (8192 < (S.size : Int) + (B.size : Int)) = true := by simp; omega
                have HV : Hid (encR m = (ByteArray.empty, 4)) := by show _ = _; rw [HVl.out, HR2.out, if_pos (Or.inr h8)]; rfl
                clear HVl HR2
                go_wp2
                go_ret2
                exact ⟨by rw [HV.out]; rfl, (M0.out.trans M5.out).trans MM2.out⟩
              · have t8 : decide (8192 < (S.size : Int) + (B.size : Int)) = false := by simp; omega
                have HR3 : Hid (refL m l ByteArray.empty = refL m (l.drop (j + 1)) (S ++ B)) := by show _ = _; rw [HR2.out, if_neg (by simp; omega)]
                have hz2 : (S ++ B).size ≤ 8192 := by rw [ByteArray.size_append]; omega
                clear HVl HR2
                go_wp2
                go_roundw
                case rel => exact ⟨j + 1, S ++ B, hjl, by go_num, rfl, hz2, HR3, MM2⟩
                case measure => simp [intOf]; omega
          · obtain rfl : j = l.length := by omega
            have t1 : decide ((l.length : Int) < (l.length : Int)) = false := by simp
            have HV : Hid (encR m = if 8192 < S.size + 7 then (ByteArray.empty, 4) else (bs (leBytes 4 (S.size + 7)) ++ bs (leBytes 1 m.ty) ++ bs (leBytes 2 m.tag) ++ S, 0)) := by
              show _ = _
              rw [HVl.out, HR.out, List.drop_length]
              rfl
            clear HVl HR hx
            by_cases h8 : 8192 < S.size + 7
            · have t8 : decide (8192 < (S.size : Int) + 7) = true := by simp; omega
              have HV2 : Hid (encR m = (ByteArray.empty, 4)) := HV.out.trans (if_pos h8)
              clear HV
              go_wp2
              go_ret2
              exact ⟨by rw [HV2.out]; rfl, (M0.out.trans M5.out).trans MM.out⟩
            · have t8 : decide (8192 < (S.size : Int) + 7) = false := by simp; omega
              have HV2 : Hid (encR m = (bs (leBytes 4 ((S.size : Int) + 7).toNat) ++ bs (leBytes 1 ((m.ty : Int)).toNat) ++ bs (leBytes 2 ((m.tag : Int)).toNat) ++ S, 0)) := HV.out.trans (if_neg h8)
              have hsz : ∀ n x, (bs (leBytes n x)).size = n := fun n x => by rw [bs_size, leBytes_length]
              have hap : ∀ a b : ByteArray, (a ++ b).size = a.size + b.size := fun a b => ByteArray.size_append
              have k1 := hk.ty
              have k2 := hk.tag
              have hw0 : IntKind.i64.wrap ((S.size : Int) + 7) = (S.size : Int) + 7 := by rw [IntKind.wrap_i64]; omega
              have hw1 : IntKind.u64.wrap ((S.size : Int) + 7) = (S.size : Int) + 7 := by rw [IntKind.wrap_u64]; omega
              have hw2 : IntKind.u64.wrap (m.ty : Int) = m.ty := by rw [IntKind.wrap_u64]; omega
              have hw3 : IntKind.u64.wrap (m.tag : Int) = m.tag := by rw [IntKind.wrap_u64]; omega
              have hA := (MQ.out.block _ (lt_of HB.out) (fun x => x)).trans HB.out
              have c0 : wr.drew.cell? ⟨w.heap.size, 0, none⟩ = some (.int .u8 m.ty) := (cell_of (w := wr.drew) hA 0).trans rfl
              have c1 : wr.drew.cell? ⟨w.heap.size, 1, none⟩ = some (.int .u16 m.tag) := (cell_of (w := wr.drew) hA 1).trans rfl
              have Mc : Hid (Mod (fun _ => False) w wr.drew) := (M0.out.trans MQ.out).drew
              have hSk : ∀ (U V : World), (U.cell? ⟨w.heap.size, 0, none⟩ = some (.int .u8 m.ty) ∧ U.cell? ⟨w.heap.size, 1, none⟩ = some (.int .u16 m.tag)) → Mod (fun _ => False) U V → (V.cell? ⟨w.heap.size, 0, none⟩ = some (.int .u8 m.ty) ∧ V.cell? ⟨w.heap.size, 1, none⟩ = some (.int .u16 m.tag)) := fun U V h hm => ⟨keepR hm h.1, keepR hm h.2⟩
              clear HV hA M0 M5 MM MQ HT HW HSZ HB
              go_wp2
              refine wp_onlyN ?_
              go_region_held_law (fun w' => w'.cell? ⟨w.heap.size, 0, none⟩ = some (.int .u8 m.ty) ∧ w'.cell? ⟨w.heap.size, 1, none⟩ = some (.int .u16 m.tag)) (first | assumption | exact ⟨c0, c1⟩ | exact hSk _ _ (by assumption) m8) (first
                | (go_at_call 46; refine (n23v_any _ _ _ (by omega) (by omega) (by decide) (by decide)).mono ?_; rintro e w8 ⟨rfl, m8⟩; have Mc := Lib.hid (Mc.out.trans m8)))
              all_goals refine onlyN_out ?_
              all_goals go_wp2
              all_goals go_ret2
              all_goals exact ⟨by rw [HV2.out]; rfl, Mc.out⟩
end Go.Proofs.YtklpopmjpgdjnaaGreatDoor
