/- The document's Same, of one message and itself. -/
import Derived.Test.YtklpopmjpgdjnaaGreatDoorQRefWr
import Derived.Test.YtklpopmjpgdjnaaGreatDoorQGk
set_option linter.unusedVariables false
set_option linter.unusedSimpArgs false
namespace Go.Proofs.YtklpopmjpgdjnaaGreatDoor
open Go.RowKit

def allF : List Fld := [.msize, .version, .fid, .afid, .newfid, .oldtag, .uname, .aname, .ename, .name, .names, .qid, .qids, .mode, .perm, .iounit, .offset, .count, .data, .stat]
def namesV : List Value := allF.map fun f => .string (fname f)
theorem namesV_get {j : Nat} (h : j < 20) : ∃ f, allF[j]? = some f ∧ namesV[j]? = some (.string (fname f)) := by
  have hl : allF.length = 20 := rfl
  refine ⟨allF[j], List.getElem?_eq_getElem (by omega), ?_⟩
  unfold namesV
  rw [List.getElem?_map, List.getElem?_eq_getElem (by omega)]; rfl
theorem rnames_any (w : World) : Calls Tryz.prog 37 #[] w fun e w' => ∃ g, e = .returned (.slice (some ⟨g, 0, none⟩) 20 20) ∧ w'.heap[g]? = some (.cells namesV.toArray 9 (0, 0)) ∧ Mod (fun _ => False) w w' := by
  obtain ⟨W, hW⟩ : ∃ W, w.alloc (.cells namesV.toArray 9) = W := ⟨_, rfl⟩
  have hb : W.heap[w.heap.size]? = some (.cells namesV.toArray 9 (0, 0)) := by subst hW; exact new_at _ _
  have m0 : Mod (fun _ => False) w W := by subst hW; exact (Mod.refl _ w).alloc _
  unfold namesV allF at hW
  simp only [List.map_cons, List.map_nil, fname] at hW
  go_enter Tryz.func37, Tryz.ntmps37
  go_wp2
  go_ret
  first | (rw [hW]; exact ⟨_, rfl, hb, m0⟩) | exact ⟨_, rfl, hb, m0⟩
theorem neqQ (q : Qd) (w : World) : (binOp .neq 28 (.agg #[.int .u8 q.t, .int .u32 q.v, .int .u64 q.p]) (.agg #[.int .u8 q.t, .int .u32 q.v, .int .u64 q.p])).run Tryz.prog w = .ok (.bool false) w := by
  have ht : Tryz.prog.underlying 28 = some (.struct (Tryz.prog.fieldsOf 28)) := by kernel_rfl
  have hp : Tryz.prog.stoodInHeld 28 = false := by kernel_rfl
  rw [run_neq_struct, show (10000 : Nat) = 9999 + 1 from rfl, run_equalIn_agg w 9999 _ _ _ ht hp]
  simp [go_sem, Op.eqFields]
theorem fname_names (f : Fld) : f = .names ↔ (fname f).toList = [110, 97, 109, 101, 115] := by
  rw [ByteArray.toList_eq]
  cases f <;> simp [fname]
theorem fname_qids (f : Fld) : f = .qids ↔ (fname f).toList = [113, 105, 100, 115] := by
  rw [ByteArray.toList_eq]
  cases f <;> simp [fname]
set_option maxHeartbeats 4000000 in
set_option maxRecDepth 100000 in
theorem same24_any (m : Msg) (an aq bn bq : Value) (P P' : Nat → Prop) (w : World) (hk : m.Ok) (hs : m.Small) (h1 : SlAt w P an (m.names.map .string)) (h2 : RecsAt Qd.cells 3 w P aq m.qids) (h3 : SlAt w P' bn (m.names.map .string)) (h4 : RecsAt Qd.cells 3 w P' bq m.qids) :
    Calls Tryz.prog 13 #[.agg (m.cells an aq).toArray, .agg (m.cells bn bq).toArray] w fun e w' => e = .returned (.bool true) ∧ Mod (fun _ => False) w w' := by
  obtain ⟨W1, hW1⟩ : ∃ W, w.alloc (.cells (m.cells an aq).toArray 33) = W := ⟨_, rfl⟩
  have ha1 : W1.heap[w.heap.size]? = some (msgO m an aq) := by subst hW1; exact new_at _ _
  have m1 : Mod (fun _ => False) w W1 := by subst hW1; exact (Mod.refl _ w).alloc _
  obtain ⟨W, hW⟩ : ∃ W, W1.alloc (.cells (m.cells bn bq).toArray 33) = W := ⟨_, rfl⟩
  have hb : W.heap[W1.heap.size]? = some (msgO m bn bq) := by subst hW; exact new_at _ _
  have m2 : Mod (fun _ => False) W1 W := by subst hW; exact (Mod.refl _ W1).alloc _
  have ha := (m2.block _ (lt_of ha1) (fun x => x)).trans ha1
  have m0 := m1.trans m2
  obtain ⟨a1, c1, rfl, hc1, hx1⟩ := (h1.mod m0 (fun _ _ _ x => x)).form
  obtain ⟨a3, c3, rfl, hc3, hx3⟩ := (h3.mod m0 (fun _ _ _ x => x)).form
  obtain ⟨a2, c2, rfl, hc2, hx2⟩ := (h2.mod m0 (fun _ _ _ x => x)).form
  obtain ⟨a4, c4, rfl, hc4, hx4⟩ := (h4.mod m0 (fun _ _ _ x => x)).form
  rw [List.length_map] at *
  have nl := hs.nl
  have ql := hs.ql
  have d1 : W.cell? ⟨w.heap.size, 12, none⟩ = some (.slice a1 m.names.length c1) := (cell_of ha 12).trans rfl
  have d2 : W.cell? ⟨w.heap.size, 16, none⟩ = some (.slice a2 m.qids.length c2) := (cell_of ha 16).trans rfl
  have d3 : W.cell? ⟨W1.heap.size, 12, none⟩ = some (.slice a3 m.names.length c3) := (cell_of hb 12).trans rfl
  have d4 : W.cell? ⟨W1.heap.size, 16, none⟩ = some (.slice a4 m.qids.length c4) := (cell_of hb 16).trans rfl
  have HN := Lib.hid (h1.mod m0 (fun _ _ _ x => x))
  have HN' := Lib.hid (h3.mod m0 (fun _ _ _ x => x))
  have HQ := Lib.hid (h2.mod m0 (fun _ _ _ x => x))
  have HQ' := Lib.hid (h4.mod m0 (fun _ _ _ x => x))
  have HA := Lib.hid ha
  have HB := Lib.hid hb
  have M0 := Lib.hid m0
  have t0 : ((m.names.length : Int) != (m.names.length : Int)) = false := by simp
  have t0' : ((m.qids.length : Int) != (m.qids.length : Int)) = false := by simp
  clear h1 h2 h3 h4 ha hb ha1 m1 m2 m0
  go_enter Tryz.func13, Tryz.ntmps13
  go_wp2
  clear hW hW1
  go_loopw [5] (fun i wr => ∃ (k : Nat), k ≤ m.names.length ∧ i = .int .i64 k ∧ Hid (Mod (fun _ => False) W wr)) (fun i _ => m.names.length - (intOf i).toNat)
  case atStart => exact ⟨0, by omega, rfl, Mod.refl _ _⟩
  case round =>
    obtain ⟨k, hk', rfl, HM⟩ := hrel
    have d1 := keepR HM.out d1
    have d2W := d2
    have d4W := d4
    have d2 := keepR HM.out d2
    have d3 := keepR HM.out d3
    have d4 := keepR HM.out d4
    by_cases hlt : k < m.names.length
    · obtain ⟨g1, o1, rfl, _, hg1, hd1⟩ := hx1 k _ (strs_get hlt)
      obtain ⟨g3, o3, rfl, _, hg3, hd3⟩ := hx3 k _ (strs_get hlt)
      have e1 := keepR HM.out hd1
      have e3 := keepR HM.out hd3
      generalize m.names[k] = s at *
      have t1 : decide ((k : Int) < (m.names.length : Int)) = true := by simp; omega
      have i1 : (0 : Int) ≤ (k : Int) := by omega
      have i2 : (k : Int) < (m.names.length : Int) := by omega
      have i3 : (m.names.length : Int) ≤ (c1 : Int) := by omega
      have i4 : (m.names.length : Int) ≤ (c3 : Int) := by omega
      clear hd1 hd3
      go_wp2
      go_quiet (fail)
      go_wp2
      go_roundw
      case rel => exact ⟨k + 1, hlt, by go_num, Lib.hid (by first | exact HM.out | exact HM.out.drewN _ | exact HM.out.drew)⟩
      case measure => simp [intOf]; omega
    · obtain rfl : k = m.names.length := by omega
      have t1 : decide ((m.names.length : Int) < (m.names.length : Int)) = false := by simp
      have HM1 := HM
      clear HM hx1 hx3
      go_wp2
      clear d1 d3
      go_loopw [6] (fun i wr => ∃ (k : Nat), k ≤ m.qids.length ∧ i = .int .i64 k ∧ Hid (Mod (fun _ => False) W wr)) (fun i _ => m.qids.length - (intOf i).toNat)
      case atStart => exact ⟨0, by omega, rfl, HM1.out⟩
      case round =>
        clear HM1
        obtain ⟨k, hk', rfl, HM⟩ := hrel
        have d2 := keepR HM.out d2W
        have d4 := keepR HM.out d4W
        by_cases hlt : k < m.qids.length
        · obtain ⟨g1, o1, rfl, _, hg1, hd1⟩ := hx2 k _ (List.getElem?_eq_getElem hlt)
          obtain ⟨g3, o3, rfl, _, hg3, hd3⟩ := hx4 k _ (List.getElem?_eq_getElem hlt)
          have e1 : wr.cell? ⟨g1, o1 + k * 3, none⟩ = some (.int .u8 m.qids[k].t) := keepR HM.out (hd1 0 _ rfl)
          have e2 : wr.cell? ⟨g1, o1 + k * 3 + 1, none⟩ = some (.int .u32 m.qids[k].v) := keepR HM.out (hd1 1 _ rfl)
          have e3 : wr.cell? ⟨g1, o1 + k * 3 + 2, none⟩ = some (.int .u64 m.qids[k].p) := keepR HM.out (hd1 2 _ rfl)
          have e4 : wr.cell? ⟨g3, o3 + k * 3, none⟩ = some (.int .u8 m.qids[k].t) := keepR HM.out (hd3 0 _ rfl)
          have e5 : wr.cell? ⟨g3, o3 + k * 3 + 1, none⟩ = some (.int .u32 m.qids[k].v) := keepR HM.out (hd3 1 _ rfl)
          have e6 : wr.cell? ⟨g3, o3 + k * 3 + 2, none⟩ = some (.int .u64 m.qids[k].p) := keepR HM.out (hd3 2 _ rfl)
          generalize m.qids[k] = q at *
          have hne := neqQ q
          have t1 : decide ((k : Int) < (m.qids.length : Int)) = true := by simp; omega
          have i1 : (0 : Int) ≤ (k : Int) := by omega
          have i2 : (k : Int) < (m.qids.length : Int) := by omega
          have i3 : (m.qids.length : Int) ≤ (c2 : Int) := by omega
          have i4 : (m.qids.length : Int) ≤ (c4 : Int) := by omega
          clear hd1 hd3
          go_wp2
          go_quiet (fail)
          go_wp2
          go_roundw
          case rel => exact ⟨k + 1, hlt, by go_num, Lib.hid (by first | exact HM.out | exact HM.out.drewN _ | exact HM.out.drew)⟩
          case measure => simp [intOf]; omega
        · obtain rfl : k = m.qids.length := by omega
          have t1 : decide ((m.qids.length : Int) < (m.qids.length : Int)) = false := by simp
          clear hx2 hx4
          have u1 : wr.cell? ⟨w.heap.size, 0, none⟩ = some (.int .u8 m.ty) := (cell_of ((HM.out.block _ (lt_of HA.out) (fun x => x)).trans HA.out) 0).trans rfl
          have u2 : wr.cell? ⟨w.heap.size, 1, none⟩ = some (.int .u16 m.tag) := (cell_of ((HM.out.block _ (lt_of HA.out) (fun x => x)).trans HA.out) 1).trans rfl
          have u3 : wr.cell? ⟨W1.heap.size, 0, none⟩ = some (.int .u8 m.ty) := (cell_of ((HM.out.block _ (lt_of HB.out) (fun x => x)).trans HB.out) 0).trans rfl
          have u4 : wr.cell? ⟨W1.heap.size, 1, none⟩ = some (.int .u16 m.tag) := (cell_of ((HM.out.block _ (lt_of HB.out) (fun x => x)).trans HB.out) 1).trans rfl
          have t2 : ((m.ty : Int) != (m.ty : Int)) = false := by simp
          have t3 : ((m.tag : Int) != (m.tag : Int)) = false := by simp
          have hNm := rnames_any wr
          go_wp2_with fail
          refine hNm.mono ?_
          rintro e w3 ⟨g, rfl, hg, m3⟩
          clear hNm u1 u2 u3 u4 d2 d4 d2W d4W t0 t0' t1 t2 t3
          have HG := Lib.hid hg
          have M3 := Lib.hid (HM.out.trans m3)
          clear hg m3 HM
          go_wp2
          clear nl ql
          go_loopw [8, 9, 10, 11, 12] (fun i _ _ _ _ wr => ∃ (k : Nat), k ≤ 20 ∧ i = .int .i64 k ∧ Hid (Mod (fun _ => False) w3 wr)) (fun i _ _ _ _ _ => 20 - (intOf i).toNat)
          case atStart => exact ⟨0, by omega, rfl, Mod.refl _ _⟩
          case round =>
            obtain ⟨k, hk', rfl, HM⟩ := hrel
            by_cases hlt : k < 20
            · obtain ⟨f, hf, hv⟩ := namesV_get hlt
              have hG := (HM.out.block _ (lt_of HG.out) (fun x => x)).trans HG.out
              have e1 : wr.cell? ⟨g, k, none⟩ = some (.string (fname f)) := by rw [cell_of hG, List.getElem?_toArray]; exact hv
              have t1 : decide ((k : Int) < 20) = true := by simp; omega
              have i1 : (0 : Int) ≤ (k : Int) := by omega
              have i2 : (k : Int) < 20 := by omega
              clear hG hv hf
              by_cases hfn : f = .names
              · have p1 := (fname_names f).1 hfn
                clear hfn
                have q1 : ((fname f).toList == [110, 97, 109, 101, 115]) = true := by rw [p1]; rfl
                go_wp2
                go_roundw
                case rel => exact ⟨k + 1, hlt, by go_num, HM⟩
                case measure => simp [intOf]; omega
              by_cases hfq : f = .qids
              · have p1 := (fname_qids f).1 hfq
                have p2 : ¬ (fname f).toList = [110, 97, 109, 101, 115] := fun x => hfn ((fname_names f).2 x)
                clear hfn hfq
                have q1 : ((fname f).toList == [110, 97, 109, 101, 115]) = false := by simpa using p2
                have q2 : ((fname f).toList == [113, 105, 100, 115]) = true := by rw [p1]; rfl
                go_wp2
                go_roundw
                case rel => exact ⟨k + 1, hlt, by go_num, HM⟩
                case measure => simp [intOf]; omega
              have p1 : ¬ (fname f).toList = [110, 97, 109, 101, 115] := fun x => hfn ((fname_names f).2 x)
              have p2 : ¬ (fname f).toList = [113, 105, 100, 115] := fun x => hfq ((fname_qids f).2 x)
              have q1 : ((fname f).toList == [110, 97, 109, 101, 115]) = false := by simpa using p1
              have q2 : ((fname f).toList == [113, 105, 100, 115]) = false := by simpa using p2
              clear hfn hfq
              clear p1 p2
              have MW := Lib.hid (M3.out.trans HM.out)
              have HM' := Lib.hid HM.out
              have hWa : ∀ U, Mod (fun _ => False) W U → Calls Tryz.prog 38 #[.agg (m.cells (.slice a1 m.names.length c1) (.slice a2 m.qids.length c2)).toArray, .string (fname f)] U (fun e w' => e = .returned (.tuple #[.string (wfB m f).1, .bool (wfB m f).2]) ∧ Mod (fun _ => False) U w') := fun U hU => rwr_any f m _ _ P U hk hs (HN.out.mod hU fun _ _ _ x => x) (HQ.out.mod hU fun _ _ _ x => x)
              have hWb : ∀ U, Mod (fun _ => False) W U → Calls Tryz.prog 38 #[.agg (m.cells (.slice a3 m.names.length c3) (.slice a4 m.qids.length c4)).toArray, .string (fname f)] U (fun e w' => e = .returned (.tuple #[.string (wfB m f).1, .bool (wfB m f).2]) ∧ Mod (fun _ => False) U w') := fun U hU => rwr_any f m _ _ P' U hk hs (HN'.out.mod hU fun _ _ _ x => x) (HQ'.out.mod hU fun _ _ _ x => x)
              have hA := (MW.out.block _ (lt_of HA.out) (fun x => x)).trans HA.out
              have hrA : wr.drew.rangeAt w.heap.size 0 (m.cells (.slice a1 m.names.length c1) (.slice a2 m.qids.length c2)) := fun j u hu => by rw [Nat.zero_add, cell_of (w := wr.drew) hA, List.getElem?_toArray]; exact hu
              have e1d : wr.drew.cell? ⟨g, k, none⟩ = some (.string (fname f)) := e1
              generalize (wfB m f).1 = x at *
              generalize (wfB m f).2 = y at *
              clear hA HM
              go_wp2
              go_cut [9, 10] from 96 to 104 (fun xv yv wc => xv = .string x ∧ yv = .bool y ∧ Hid (Mod (fun _ => False) wr wc))
              case first =>
                refine wp_region_any (by kernel_rfl) ?_
                change wpAny _ _ _ _ _ _ _ (World.drew _)
                refine wpAny_take (i := 1) (v := ?_) rfl (by kernel_rfl) (by kernel_rfl) (by kernel_rfl) (fun _ _ _ h => h) (Or.inl ⟨by rfl, ?_⟩) ?_
                rotate_left
                · intro w; go_simp
                  all_goals with_reducible rfl
                refine wpAny_take (i := 2) (v := ?_) rfl (by kernel_rfl) (by kernel_rfl) (by kernel_rfl) (fun _ _ _ h => h) (Or.inl ⟨by rfl, ?_⟩) ?_
                rotate_left
                · intro w; go_simp
                  all_goals with_reducible rfl
                refine wpAny_take (i := 3) (v := ?_) rfl (by kernel_rfl) (by kernel_rfl) (by kernel_rfl) (fun _ _ _ h => h) (Or.inl ⟨by rfl, ?_⟩) ?_
                rotate_left
                · intro w; go_simp
                  all_goals with_reducible rfl
                refine wpAny_ready (rs := [0, 4]) (by kernel_rfl) (by simp) ?_
                refine AllReady.cons rfl (fun K hK => ?_) ?_
                rotate_left
                refine AllReady.cons rfl (fun K hK => ?_) AllReady.nil
                · go_simp
                  refine hK _ _ ?_
                  clear hK K
                  refine wpAny_ready (rs := [0]) (by kernel_rfl) (by simp) ?_
                  refine AllReady.cons rfl (fun K hK => ?_) AllReady.nil
                  refine wp_load_mid 33 (.tmp 2) rfl w.heap.size 0 rfl (m.cells (.slice a1 m.names.length c1) (.slice a2 m.qids.length c2)) _ hrA Tryz.underlying33 rfl (by kernel_rfl) ?_
                  refine hK _ _ ?_
                  clear hK K
                  try simp only [Act.put, List.setIfInBounds_toArray, List.set_cons_zero, List.set_cons_succ]
                  refine wpAny_ready (rs := [5]) (by kernel_rfl) (by simp) ?_
                  refine AllReady.cons rfl (fun K hK => ?_) AllReady.nil
                  go_simp
                  refine (hWa _ (MW.out).drew).mono ?_
                  rintro e w4 ⟨rfl, m4⟩
                  refine hK _ _ ?_
                  clear hK K
                  refine wpAny_take (i := 6) (v := ?_) rfl (by kernel_rfl) (by kernel_rfl) (by kernel_rfl) (fun _ _ _ h => h) (Or.inl ⟨by rfl, ?_⟩) ?_
                  rotate_left
                  · intro w; go_simp
                    all_goals with_reducible rfl
                  refine wpAny_take (i := 7) (v := ?_) rfl (by kernel_rfl) (by kernel_rfl) (by kernel_rfl) (fun _ _ _ h => h) (Or.inl ⟨by rfl, ?_⟩) ?_
                  rotate_left
                  · intro w; go_simp
                    all_goals with_reducible rfl
                  refine wpAny_take (i := 8) (v := ?_) rfl (by kernel_rfl) (by kernel_rfl) (by kernel_rfl) (fun _ _ _ h => h) (Or.inl ⟨by rfl, ?_⟩) ?_
                  rotate_left
                  · intro w; go_simp
                    all_goals with_reducible rfl
                  refine wpAny_take (i := 9) (v := ?_) rfl (by kernel_rfl) (by kernel_rfl) (by kernel_rfl) (fun _ _ _ h => h) (Or.inl ⟨by rfl, ?_⟩) ?_
                  rotate_left
                  · intro w; go_simp
                    all_goals with_reducible rfl
                  refine wpAny_take (i := 10) (v := ?_) rfl (by kernel_rfl) (by kernel_rfl) (by kernel_rfl) (fun _ _ _ h => h) (Or.inl ⟨by rfl, ?_⟩) ?_
                  rotate_left
                  · intro w; go_simp
                    all_goals with_reducible rfl
                  refine wpAny_done (by kernel_rfl) ?_ _
                  go_wp2
                  go_meet
                  case rel => exact ⟨rfl, rfl, m4.ofDrew⟩
                · refine wp_load_mid 33 (.tmp 2) rfl w.heap.size 0 rfl (m.cells (.slice a1 m.names.length c1) (.slice a2 m.qids.length c2)) _ hrA Tryz.underlying33 rfl (by kernel_rfl) ?_
                  refine hK _ _ ?_
                  clear hK K
                  try simp only [Act.put, List.setIfInBounds_toArray, List.set_cons_zero, List.set_cons_succ]
                  refine wpAny_ready (rs := [4]) (by kernel_rfl) (by simp) ?_
                  refine AllReady.cons rfl (fun K hK => ?_) AllReady.nil
                  go_simp
                  refine hK _ _ ?_
                  clear hK K
                  refine wpAny_ready (rs := [5]) (by kernel_rfl) (by simp) ?_
                  refine AllReady.cons rfl (fun K hK => ?_) AllReady.nil
                  go_simp
                  refine (hWa _ (MW.out).drew).mono ?_
                  rintro e w4 ⟨rfl, m4⟩
                  refine hK _ _ ?_
                  clear hK K
                  refine wpAny_take (i := 6) (v := ?_) rfl (by kernel_rfl) (by kernel_rfl) (by kernel_rfl) (fun _ _ _ h => h) (Or.inl ⟨by rfl, ?_⟩) ?_
                  rotate_left
                  · intro w; go_simp
                    all_goals with_reducible rfl
                  refine wpAny_take (i := 7) (v := ?_) rfl (by kernel_rfl) (by kernel_rfl) (by kernel_rfl) (fun _ _ _ h => h) (Or.inl ⟨by rfl, ?_⟩) ?_
                  rotate_left
                  · intro w; go_simp
                    all_goals with_reducible rfl
                  refine wpAny_take (i := 8) (v := ?_) rfl (by kernel_rfl) (by kernel_rfl) (by kernel_rfl) (fun _ _ _ h => h) (Or.inl ⟨by rfl, ?_⟩) ?_
                  rotate_left
                  · intro w; go_simp
                    all_goals with_reducible rfl
                  refine wpAny_take (i := 9) (v := ?_) rfl (by kernel_rfl) (by kernel_rfl) (by kernel_rfl) (fun _ _ _ h => h) (Or.inl ⟨by rfl, ?_⟩) ?_
                  rotate_left
                  · intro w; go_simp
                    all_goals with_reducible rfl
                  refine wpAny_take (i := 10) (v := ?_) rfl (by kernel_rfl) (by kernel_rfl) (by kernel_rfl) (fun _ _ _ h => h) (Or.inl ⟨by rfl, ?_⟩) ?_
                  rotate_left
                  · intro w; go_simp
                    all_goals with_reducible rfl
                  refine wpAny_done (by kernel_rfl) ?_ _
                  go_wp2
                  go_meet
                  case rel => exact ⟨rfl, rfl, m4.ofDrew⟩
              case rest =>
              obtain ⟨rfl, rfl, MC⟩ := hcut
              clear hrA e1d hWa
              have MW2 := Lib.hid (MW.out.trans MC.out)
              have hB := (MW2.out.block _ (lt_of HB.out) (fun x => x)).trans HB.out
              have hrB : wc.drew.rangeAt W1.heap.size 0 (m.cells (.slice a3 m.names.length c3) (.slice a4 m.qids.length c4)) := fun j u hu => by rw [Nat.zero_add, cell_of (w := wc.drew) hB, List.getElem?_toArray]; exact hu
              have e1 := keepR MC.out e1
              have e1d : wc.drew.cell? ⟨g, k, none⟩ = some (.string (fname f)) := e1
              clear hB
              go_wp2
              go_cut [11, 12] from 105 to 113 (fun xv yv wd => xv = .string x ∧ yv = .bool y ∧ Hid (Mod (fun _ => False) wc wd))
              case first =>
                refine wp_region_any (by kernel_rfl) ?_
                change wpAny _ _ _ _ _ _ _ (World.drew _)
                refine wpAny_take (i := 1) (v := ?_) rfl (by kernel_rfl) (by kernel_rfl) (by kernel_rfl) (fun _ _ _ h => h) (Or.inl ⟨by rfl, ?_⟩) ?_
                rotate_left
                · intro w; go_simp
                  all_goals with_reducible rfl
                refine wpAny_take (i := 2) (v := ?_) rfl (by kernel_rfl) (by kernel_rfl) (by kernel_rfl) (fun _ _ _ h => h) (Or.inl ⟨by rfl, ?_⟩) ?_
                rotate_left
                · intro w; go_simp
                  all_goals with_reducible rfl
                refine wpAny_take (i := 3) (v := ?_) rfl (by kernel_rfl) (by kernel_rfl) (by kernel_rfl) (fun _ _ _ h => h) (Or.inl ⟨by rfl, ?_⟩) ?_
                rotate_left
                · intro w; go_simp
                  all_goals with_reducible rfl
                refine wpAny_ready (rs := [0, 4]) (by kernel_rfl) (by simp) ?_
                refine AllReady.cons rfl (fun K hK => ?_) ?_
                rotate_left
                refine AllReady.cons rfl (fun K hK => ?_) AllReady.nil
                · go_simp
                  refine hK _ _ ?_
                  clear hK K
                  refine wpAny_ready (rs := [0]) (by kernel_rfl) (by simp) ?_
                  refine AllReady.cons rfl (fun K hK => ?_) AllReady.nil
                  refine wp_load_mid 33 (.tmp 3) rfl W1.heap.size 0 rfl (m.cells (.slice a3 m.names.length c3) (.slice a4 m.qids.length c4)) _ hrB Tryz.underlying33 rfl (by kernel_rfl) ?_
                  refine hK _ _ ?_
                  clear hK K
                  try simp only [Act.put, List.setIfInBounds_toArray, List.set_cons_zero, List.set_cons_succ]
                  refine wpAny_ready (rs := [5]) (by kernel_rfl) (by simp) ?_
                  refine AllReady.cons rfl (fun K hK => ?_) AllReady.nil
                  go_simp
                  refine (hWb _ (MW2.out).drew).mono ?_
                  rintro e w4 ⟨rfl, m4⟩
                  refine hK _ _ ?_
                  clear hK K
                  refine wpAny_take (i := 6) (v := ?_) rfl (by kernel_rfl) (by kernel_rfl) (by kernel_rfl) (fun _ _ _ h => h) (Or.inl ⟨by rfl, ?_⟩) ?_
                  rotate_left
                  · intro w; go_simp
                    all_goals with_reducible rfl
                  refine wpAny_take (i := 7) (v := ?_) rfl (by kernel_rfl) (by kernel_rfl) (by kernel_rfl) (fun _ _ _ h => h) (Or.inl ⟨by rfl, ?_⟩) ?_
                  rotate_left
                  · intro w; go_simp
                    all_goals with_reducible rfl
                  refine wpAny_take (i := 8) (v := ?_) rfl (by kernel_rfl) (by kernel_rfl) (by kernel_rfl) (fun _ _ _ h => h) (Or.inl ⟨by rfl, ?_⟩) ?_
                  rotate_left
                  · intro w; go_simp
                    all_goals with_reducible rfl
                  refine wpAny_take (i := 9) (v := ?_) rfl (by kernel_rfl) (by kernel_rfl) (by kernel_rfl) (fun _ _ _ h => h) (Or.inl ⟨by rfl, ?_⟩) ?_
                  rotate_left
                  · intro w; go_simp
                    all_goals with_reducible rfl
                  refine wpAny_take (i := 10) (v := ?_) rfl (by kernel_rfl) (by kernel_rfl) (by kernel_rfl) (fun _ _ _ h => h) (Or.inl ⟨by rfl, ?_⟩) ?_
                  rotate_left
                  · intro w; go_simp
                    all_goals with_reducible rfl
                  refine wpAny_done (by kernel_rfl) ?_ _
                  go_wp2
                  go_meet
                  case rel => exact ⟨rfl, rfl, m4.ofDrew⟩
                · refine wp_load_mid 33 (.tmp 3) rfl W1.heap.size 0 rfl (m.cells (.slice a3 m.names.length c3) (.slice a4 m.qids.length c4)) _ hrB Tryz.underlying33 rfl (by kernel_rfl) ?_
                  refine hK _ _ ?_
                  clear hK K
                  try simp only [Act.put, List.setIfInBounds_toArray, List.set_cons_zero, List.set_cons_succ]
                  refine wpAny_ready (rs := [4]) (by kernel_rfl) (by simp) ?_
                  refine AllReady.cons rfl (fun K hK => ?_) AllReady.nil
                  go_simp
                  refine hK _ _ ?_
                  clear hK K
                  refine wpAny_ready (rs := [5]) (by kernel_rfl) (by simp) ?_
                  refine AllReady.cons rfl (fun K hK => ?_) AllReady.nil
                  go_simp
                  refine (hWb _ (MW2.out).drew).mono ?_
                  rintro e w4 ⟨rfl, m4⟩
                  refine hK _ _ ?_
                  clear hK K
                  refine wpAny_take (i := 6) (v := ?_) rfl (by kernel_rfl) (by kernel_rfl) (by kernel_rfl) (fun _ _ _ h => h) (Or.inl ⟨by rfl, ?_⟩) ?_
                  rotate_left
                  · intro w; go_simp
                    all_goals with_reducible rfl
                  refine wpAny_take (i := 7) (v := ?_) rfl (by kernel_rfl) (by kernel_rfl) (by kernel_rfl) (fun _ _ _ h => h) (Or.inl ⟨by rfl, ?_⟩) ?_
                  rotate_left
                  · intro w; go_simp
                    all_goals with_reducible rfl
                  refine wpAny_take (i := 8) (v := ?_) rfl (by kernel_rfl) (by kernel_rfl) (by kernel_rfl) (fun _ _ _ h => h) (Or.inl ⟨by rfl, ?_⟩) ?_
                  rotate_left
                  · intro w; go_simp
                    all_goals with_reducible rfl
                  refine wpAny_take (i := 9) (v := ?_) rfl (by kernel_rfl) (by kernel_rfl) (by kernel_rfl) (fun _ _ _ h => h) (Or.inl ⟨by rfl, ?_⟩) ?_
                  rotate_left
                  · intro w; go_simp
                    all_goals with_reducible rfl
                  refine wpAny_take (i := 10) (v := ?_) rfl (by kernel_rfl) (by kernel_rfl) (by kernel_rfl) (fun _ _ _ h => h) (Or.inl ⟨by rfl, ?_⟩) ?_
                  rotate_left
                  · intro w; go_simp
                    all_goals with_reducible rfl
                  refine wpAny_done (by kernel_rfl) ?_ _
                  go_wp2
                  go_meet
                  case rel => exact ⟨rfl, rfl, m4.ofDrew⟩
              case rest =>
              obtain ⟨rfl, rfl, MD⟩ := hcut
              have MF := Lib.hid ((HM'.out.trans MC.out).trans MD.out)
              have q5 : (x.toList == x.toList) = true := by simp
              clear hrB e1d hWb e1 q1 q2
              go_wp2
              go_roundw
              case rel => exact ⟨k + 1, hlt, by go_num, MF⟩
              case measure => simp [intOf]; omega
            · obtain rfl : k = 20 := by omega
              have t1 : decide ((20 : Int) < 20) = false := by decide
              have MW := Lib.hid (M3.out.trans HM.out)
              have hA := (MW.out.block _ (lt_of HA.out) (fun x => x)).trans HA.out
              have hB := (MW.out.block _ (lt_of HB.out) (fun x => x)).trans HB.out
              have y0 : (wr).cell? ⟨w.heap.size, 23, none⟩ = some (.int .u16 m.stat.ty) := (cell_of hA 23).trans rfl
              have y1 : (wr).cell? ⟨w.heap.size, 24, none⟩ = some (.int .u32 m.stat.dev) := (cell_of hA 24).trans rfl
              have y2 : (wr).cell? ⟨w.heap.size, 25, none⟩ = some (.int .u8 m.stat.qt) := (cell_of hA 25).trans rfl
              have y3 : (wr).cell? ⟨w.heap.size, 26, none⟩ = some (.int .u32 m.stat.qv) := (cell_of hA 26).trans rfl
              have y4 : (wr).cell? ⟨w.heap.size, 27, none⟩ = some (.int .u64 m.stat.qp) := (cell_of hA 27).trans rfl
              have y5 : (wr).cell? ⟨w.heap.size, 28, none⟩ = some (.int .u32 m.stat.mo) := (cell_of hA 28).trans rfl
              have y6 : (wr).cell? ⟨w.heap.size, 29, none⟩ = some (.int .u32 m.stat.at_) := (cell_of hA 29).trans rfl
              have y7 : (wr).cell? ⟨w.heap.size, 30, none⟩ = some (.int .u32 m.stat.mt) := (cell_of hA 30).trans rfl
              have y8 : (wr).cell? ⟨w.heap.size, 31, none⟩ = some (.int .u64 m.stat.len) := (cell_of hA 31).trans rfl
              have y9 : (wr).cell? ⟨w.heap.size, 32, none⟩ = some (.string m.stat.n) := (cell_of hA 32).trans rfl
              have y10 : (wr).cell? ⟨w.heap.size, 33, none⟩ = some (.string m.stat.u) := (cell_of hA 33).trans rfl
              have y11 : (wr).cell? ⟨w.heap.size, 34, none⟩ = some (.string m.stat.g) := (cell_of hA 34).trans rfl
              have y12 : (wr).cell? ⟨w.heap.size, 35, none⟩ = some (.string m.stat.m) := (cell_of hA 35).trans rfl
              have z0 : (wr).cell? ⟨W1.heap.size, 23, none⟩ = some (.int .u16 m.stat.ty) := (cell_of hB 23).trans rfl
              have z1 : (wr).cell? ⟨W1.heap.size, 24, none⟩ = some (.int .u32 m.stat.dev) := (cell_of hB 24).trans rfl
              have z2 : (wr).cell? ⟨W1.heap.size, 25, none⟩ = some (.int .u8 m.stat.qt) := (cell_of hB 25).trans rfl
              have z3 : (wr).cell? ⟨W1.heap.size, 26, none⟩ = some (.int .u32 m.stat.qv) := (cell_of hB 26).trans rfl
              have z4 : (wr).cell? ⟨W1.heap.size, 27, none⟩ = some (.int .u64 m.stat.qp) := (cell_of hB 27).trans rfl
              have z5 : (wr).cell? ⟨W1.heap.size, 28, none⟩ = some (.int .u32 m.stat.mo) := (cell_of hB 28).trans rfl
              have z6 : (wr).cell? ⟨W1.heap.size, 29, none⟩ = some (.int .u32 m.stat.at_) := (cell_of hB 29).trans rfl
              have z7 : (wr).cell? ⟨W1.heap.size, 30, none⟩ = some (.int .u32 m.stat.mt) := (cell_of hB 30).trans rfl
              have z8 : (wr).cell? ⟨W1.heap.size, 31, none⟩ = some (.int .u64 m.stat.len) := (cell_of hB 31).trans rfl
              have z9 : (wr).cell? ⟨W1.heap.size, 32, none⟩ = some (.string m.stat.n) := (cell_of hB 32).trans rfl
              have z10 : (wr).cell? ⟨W1.heap.size, 33, none⟩ = some (.string m.stat.u) := (cell_of hB 33).trans rfl
              have z11 : (wr).cell? ⟨W1.heap.size, 34, none⟩ = some (.string m.stat.g) := (cell_of hB 34).trans rfl
              have z12 : (wr).cell? ⟨W1.heap.size, 35, none⟩ = some (.string m.stat.m) := (cell_of hB 35).trans rfl
              have heq := eql_any m.stat m.stat
              rw [(eqS_iff _ _).2 rfl] at heq
              unfold St.v St.cells at heq
              clear hA hB
              go_wp2
              go_ret
              exact ⟨rfl, M0.out.trans MW.out⟩
end Go.Proofs.YtklpopmjpgdjnaaGreatDoor
