/- The law WireShape, walked. -/
import Derived.Test.YtklpopmjpgdjnaaGreatDoorQShape24
import Derived.Test.YtklpopmjpgdjnaaGreatDoorQCopy24
set_option linter.unusedVariables false
set_option linter.unusedSimpArgs false
namespace Go.Proofs.YtklpopmjpgdjnaaGreatDoor
open Go.RowKit

theorem shape_facts (m : Msg) (b : UInt8) (hk : m.Ok) (hs : m.Small) (he : (encM m).2 = 0) : (encM (turnM m b)).2 = 0 ∧ (encM (turnM m b)).1.size = (encM m).1.size ∧ shapeB (turnM m b) = shapeB m ∧ (shapeB m).size = (encM m).1.size ∧ decM (shapeB m) = (shapeM m, 0) ∧ shapeB (shapeM m) = shapeB m := by
  obtain ⟨l, _, _, hp, _⟩ := encM_ok he
  have ht := (turnM_sz m b).enc he (turnM_plain b hp)
  have hS := (shapeM_sz m).enc he (shapeM_plain m)
  have hB : shapeB m = (encM (shapeM m)).1 := if_pos he
  have hB2 : shapeB (turnM m b) = (encM (shapeM m)).1 := by
    unfold shapeB
    rw [if_pos ht.1, (turnM_sz m b).shape]
  have hB3 : shapeB (shapeM m) = (encM (shapeM m)).1 := by
    unfold shapeB
    rw [if_pos hS.1, (shapeM_sz m).shape]
  refine ⟨ht.1, ht.2, by rw [hB2, hB], by rw [hB]; exact hS.2, ?_, by rw [hB3, hB]⟩
  rw [hB]
  exact dec_encM (shapeM m) ((shapeM_sz m).ok hk) (by have := ((shapeM_sz m).small hs).data; omega) hS.1
theorem mix_set {l T : List ByteArray} (h : T.length = l.length) {j : Nat} (hj : j < l.length) : ((T.take j ++ l.drop j).map Value.string).set j (.string (T[j]'(by omega))) = (T.take (j + 1) ++ l.drop (j + 1)).map Value.string := by
  rw [List.map_append, List.map_append, List.set_append_right _ _ (by rw [List.length_map, List.length_take]; omega), List.length_map, List.length_take, show min j T.length = j by omega, Nat.sub_self, List.drop_eq_getElem_cons hj, List.map_cons, List.set_cons_zero, List.take_succ_eq_append_getElem (by omega), List.map_append, List.append_assoc]
  rfl
theorem mix_get {l T : List ByteArray} (h : T.length = l.length) {j : Nat} (hj : j < l.length) : ((T.take j ++ l.drop j).map Value.string)[j]? = some (.string l[j]) := by
  rw [List.getElem?_map, List.getElem?_append_right (by rw [List.length_take]; omega), List.length_take, show min j T.length = j by omega, Nat.sub_self, List.drop_eq_getElem_cons hj]
  rfl
set_option maxHeartbeats 4000000 in
set_option maxRecDepth 100000 in
theorem shape_walk (m : Msg) (vn vq : Value) (y : UInt8) (P : Nat → Prop) (w : World) (hk : m.Ok) (hr : m.Reach) (hn : SlAt w P vn (m.names.map .string)) (hq : RecsAt Qd.cells 3 w P vq m.qids) (hT : Tabs w) :
    Calls Tryz.prog 7 #[.agg (m.cells vn vq).toArray, .int .u8 y.toNat] w fun e w' => e = .returned (.bool true) ∧ Mod (fun _ => False) w w' := by
  obtain ⟨W, hW⟩ : ∃ W, w.alloc (.cells (m.cells vn vq).toArray 33) = W := ⟨_, rfl⟩
  have hb : W.heap[w.heap.size]? = some (msgO m vn vq) := by subst hW; exact new_at _ _
  have m0 : Mod (fun _ => False) w W := by subst hW; exact (Mod.refl _ w).alloc _
  have hrk : ∀ U, Mod (fun _ => False) W U → U.rangeAt w.heap.size 0 (m.cells vn vq) := fun U hU j u hu => by rw [Nat.zero_add, cell_of ((hU.block _ (lt_of hb) (fun x => x)).trans hb), List.getElem?_toArray]; exact hu
  have hTW := hT.mod m0
  have hWk := fun U (hU : Mod (fun _ => False) W U) => works24_any U (hTW.mod hU)
  have hnW := hn.mod m0 (fun _ _ _ x => x)
  have hqW := hq.mod m0 (fun _ _ _ x => x)
  have hL := long_any m vn vq P W hr hnW hqW
  have hr0 := hrk W (Mod.refl _ W)
  have hlen : (m.cells vn vq).length = 36 := rfl
  have M0 := Lib.hid m0
  have HN := Lib.hid hnW
  have HQ := Lib.hid hqW
  have HT := Lib.hid hTW
  have HB0 := Lib.hid hb
  clear hn hq hT hb m0 hnW hqW hTW
  go_enter Tryz.func7, Tryz.ntmps7
  cases hlm : longM m with
  | true =>
    rw [hlm] at hL
    go_wp2_with (first
      | refine wpList_load_mid rfl 33 (.tmp 2) rfl w.heap.size 0 rfl (m.cells vn vq) _ hr0 Tryz.underlying33 rfl (by kernel_rfl) ?_
      | (go_at_call 14; refine hL.mono ?_; rintro e w1 ⟨rfl, m1⟩)
      | (go_at_call 8; refine (hWk _ m1).mono ?_; rintro e w2 ⟨rfl, m2⟩))
    go_ret
    exact ⟨rfl, (M0.out.trans m1).trans m2⟩
  | false =>
    rw [hlm] at hL
    have hsm := longM_small hlm
    have hCp := fun U (hU : Mod (fun _ => False) W U) => copied_any m vn vq P U hsm.nl hsm.ql (HN.out.mod hU fun _ _ _ x => x) (HQ.out.mod hU fun _ _ _ x => x)
    have hMy := fun U a b c d e => may_lt m a b c U hk hsm d e
    by_cases he : (encM m).2 = 0
    case neg =>
      have q1 : ((encM m).2 != 0) = true := by simp [he]
      generalize (encM m).2 = er at *
      go_wp2_with (first
        | refine wpList_load_mid rfl 33 (.tmp 2) rfl w.heap.size 0 rfl (m.cells vn vq) _ hr0 Tryz.underlying33 rfl (by kernel_rfl) ?_
        | (go_at_call 14; refine hL.mono ?_; rintro e w1 ⟨rfl, m1⟩; have hr1 := hrk _ m1; clear hL hr0)
        | refine wpList_load_guard 33 (.tmp 2) rfl rfl w.heap.size 0 rfl (m.cells vn vq) _ hr1 Tryz.underlying33 rfl (by kernel_rfl) ?_
        | (go_at_call 16; refine (hCp _ m1).mono ?_; rintro e w2 ⟨vn2, vq2, rfl, hn2, hq2, m2⟩; have M2 := Lib.hid (m1.trans m2); clear m1 hr1 m2)
        | (go_at_call 17; refine (hMy _ _ _ _ hn2 hq2 (HT.out.mod M2.out)).mono ?_; rintro e w3 ⟨rfl, m3⟩; have M3 := Lib.hid (M2.out.trans m3); clear M2 m3 hn2 hq2)
        | (go_at_call 8; refine (hWk _ M3.out).mono ?_; rintro e w4 ⟨rfl, m4⟩))
      go_ret
      exact ⟨rfl, (M0.out.trans M3.out).trans m4⟩
    have hEn := fun U a b c d e => enc_lt m a b c U hk hsm d e
    have HFx := Lib.hid (shape_facts m y hk hsm he)
    have hCo := fun U (hU : Mod (fun _ => False) W U) => copied_own m vn vq P U hsm.nl hsm.ql (HN.out.mod hU fun _ _ _ x => x) (HQ.out.mod hU fun _ _ _ x => x)
    have q1 : ((encM m).2 != 0) = false := by simp [he]
    obtain ⟨A, hA⟩ : ∃ A, (encM m).1 = A := ⟨_, rfl⟩
    rw [he] at hMy hEn q1
    rw [hA] at hEn HFx
    have hAs : A.size ≤ 8192 := by rw [← hA]; exact encM_size m
    clear he hA
    go_upto_region 5 with (first
      | refine wpList_load_mid rfl 33 (.tmp 2) rfl w.heap.size 0 rfl (m.cells vn vq) _ hr0 Tryz.underlying33 rfl (by kernel_rfl) ?_
      | (go_at_call 14; refine hL.mono ?_; rintro e w1 ⟨rfl, m1⟩; have hr1 := hrk _ m1; clear hL hr0)
      | refine wpList_load_guard 33 (.tmp 2) rfl rfl w.heap.size 0 rfl (m.cells vn vq) _ hr1 Tryz.underlying33 rfl (by kernel_rfl) ?_
      | (go_at_call 16; refine (hCp _ m1).mono ?_; rintro e w2 ⟨vn2, vq2, rfl, hn2, hq2, m2⟩; have M2 := Lib.hid (m1.trans m2); clear m1 hr1 m2)
      | (go_at_call 17; refine (hMy _ _ _ _ hn2 hq2 (HT.out.mod M2.out)).mono ?_; rintro e w3 ⟨rfl, m3⟩; have M3 := M2.out.trans m3; have hr3 := hrk _ M3; clear M2 m3 hn2 hq2 hMy)
      | refine wpList_load_mid rfl 33 (.tmp 2) rfl w.heap.size 0 rfl (m.cells vn vq) _ hr3 Tryz.underlying33 rfl (by kernel_rfl) ?_
      | (go_at_call 16; refine (hCp _ M3).mono ?_; rintro e w4 ⟨vn4, vq4, rfl, hn4, hq4, m4⟩; have M4 := Lib.hid (M3.trans m4); clear M3 hr3 m4)
      | (go_at_call 15; refine (hEn _ _ _ _ hn4 hq4 (HT.out.mod M4.out)).mono ?_; rintro e w5 ⟨rfl, m5⟩; have M5 := M4.out.trans m5; have hr5 := hrk _ M5; clear M4 m5 hn4 hq4 hEn)
      | refine wpList_load_mid rfl 33 (.tmp 2) rfl w.heap.size 0 rfl (m.cells vn vq) _ hr5 Tryz.underlying33 rfl (by kernel_rfl) ?_
      | (go_at_call 16; refine (hCo _ M5).mono ?_; rintro e w6 ⟨vx, vy, B, rfl, hox, hlB, hqx, m6⟩; have M6 := Lib.hid (M5.trans m6); clear hr5 m6 hCo; have hx1 : vx.oneCell' = true := (by obtain ⟨a, c, rfl, _⟩ := hox.slAt.form; rfl); have hx2 : vy.oneCell' = true := (by obtain ⟨a, c, rfl, _⟩ := hqx.form; rfl))
      | (refine wpl_store_row rfl 33 (.tmp 7) (.tmp 30) rfl rfl w6.heap.size (m.cells vx vy) rfl rfl 33 _ (new_at w6 _) rfl (msg_one _ _ _ hx1 hx2) (by kernel_rfl) ?_; intro V7 hv7 mv7))
    have g7 : Mod (fun _ => False) w6 V7 := ((Mod.refl (fun _ => False) w6).alloc _).trans' mv7 fun k hk e => by omega
    have MU := Lib.hid (M6.out.trans g7)
    have hlx := hox.lt
    have HO := Lib.hid (hox.mod g7 (fun _ _ x => x))
    have HY := Lib.hid (hqx.lt'.mod g7 (fun _ _ _ x => x))
    have HX : Hid (V7.heap[w6.heap.size]? = some (msgO m vx vy)) := hv7
    have HBb := Lib.hid ((MU.out.block _ (lt_of HB0.out) (fun x => x)).trans HB0.out)
    have hWb : W.heap.size ≤ w6.heap.size := M6.out.size
    have hbW : w.heap.size < W.heap.size := lt_of HB0.out
    obtain ⟨B5, hB5⟩ : ∃ B5, w5.heap.size = B5 := ⟨_, rfl⟩
    rw [hB5] at HO hlx
    have hWB : W.heap.size ≤ B5 := by rw [← hB5]; exact M5.size
    obtain ⟨bx, hbx⟩ : ∃ bx, w6.heap.size = bx := ⟨_, rfl⟩
    rw [hbx] at HX HY hWb hlx ⊢
    have hne : w.heap.size ≠ bx := by omega
    have cm22 : V7.cell? ⟨w.heap.size, 22, none⟩ = some (.string m.data) := (cell_of HBb.out 22).trans rfl
    have cm8 : V7.cell? ⟨w.heap.size, 8, none⟩ = some (.string m.uname) := (cell_of HBb.out 8).trans rfl
    have cm10 : V7.cell? ⟨w.heap.size, 10, none⟩ = some (.string m.ename) := (cell_of HBb.out 10).trans rfl
    have cm11 : V7.cell? ⟨w.heap.size, 11, none⟩ = some (.string m.name) := (cell_of HBb.out 11).trans rfl
    clear g7 hox hqx hv7 mv7 M6 M5 hx1 hx2
    go_wp2_with fail
    refine (turned_any m.data y _ hsm.data).mono ?_
    rintro e w8 ⟨rfl, m8⟩
    have hx8 := (m8.block _ (lt_of HX.out) (fun x => x)).trans HX.out
    have xf : w8.frozen? ⟨bx, 22, none⟩ = false := free_of hx8 22
    have xc : w8.cell? ⟨bx, 22, none⟩ = some (.string m.data) := (cell_of hx8 22).trans rfl
    obtain ⟨W8, hW8⟩ : ∃ W8, w8.setCell ⟨bx, 22, none⟩ (.string (rep y m.data.size)) = W8 := ⟨_, rfl⟩
    have s8 : Mod (· = bx) w8 W8 := by rw [← hW8]; exact Mod.set1 _ _ _ _
    have HB2 := Lib.hid ((s8.block _ (Nat.lt_of_lt_of_le (lt_of HBb.out) m8.size) hne).trans ((m8.block _ (lt_of HBb.out) (fun x => x)).trans HBb.out))
    have MU2 := Lib.hid ((MU.out.trans m8).trans' s8 fun k hk e => by omega)
    have HO2 := Lib.hid ((HO.out.mod m8 (fun _ _ x => x)).modB s8 fun k hk e => by have := (hlx k hk).2; omega)
    have HY2 := Lib.hid ((HY.out.mod m8 (fun _ _ _ x => x)).mod s8 fun g hg hg2 e => by have h1 := hg.2; have h2 : g = bx := e; omega)
    have HX2 : Hid (W8.heap[bx]? = some (msgO { m with data := rep y m.data.size } vx vy)) := by rw [← hW8]; exact heap_set hx8 22 _
    clear HX HBb MU HO HY hx8 m8 s8
    have HX := HX2
    have HBb := HB2
    have MU := MU2
    have HO := HO2
    have HY := HY2
    clear HX2 HB2 MU2 HO2 HY2
    have cm8 : W8.cell? ⟨w.heap.size, 8, none⟩ = some (.string m.uname) := (cell_of HBb.out 8).trans rfl
    have cm10 : W8.cell? ⟨w.heap.size, 10, none⟩ = some (.string m.ename) := (cell_of HBb.out 10).trans rfl
    have cm11 : W8.cell? ⟨w.heap.size, 11, none⟩ = some (.string m.name) := (cell_of HBb.out 11).trans rfl
    go_wp2_with fail
    refine (turned_any m.ename 101 _ hsm.ename).mono ?_
    rintro e w8 ⟨rfl, m8⟩
    have hx8 := (m8.block _ (lt_of HX.out) (fun x => x)).trans HX.out
    have xf : w8.frozen? ⟨bx, 10, none⟩ = false := free_of hx8 10
    have xc : w8.cell? ⟨bx, 10, none⟩ = some (.string m.ename) := (cell_of hx8 10).trans rfl
    obtain ⟨W8, hW8⟩ : ∃ W8, w8.setCell ⟨bx, 10, none⟩ (.string (rep 101 m.ename.size)) = W8 := ⟨_, rfl⟩
    have s8 : Mod (· = bx) w8 W8 := by rw [← hW8]; exact Mod.set1 _ _ _ _
    have HB2 := Lib.hid ((s8.block _ (Nat.lt_of_lt_of_le (lt_of HBb.out) m8.size) hne).trans ((m8.block _ (lt_of HBb.out) (fun x => x)).trans HBb.out))
    have MU2 := Lib.hid ((MU.out.trans m8).trans' s8 fun k hk e => by omega)
    have HO2 := Lib.hid ((HO.out.mod m8 (fun _ _ x => x)).modB s8 fun k hk e => by have := (hlx k hk).2; omega)
    have HY2 := Lib.hid ((HY.out.mod m8 (fun _ _ _ x => x)).mod s8 fun g hg hg2 e => by have h1 := hg.2; have h2 : g = bx := e; omega)
    have HX2 : Hid (W8.heap[bx]? = some (msgO { m with data := rep y m.data.size, ename := rep 101 m.ename.size } vx vy)) := by rw [← hW8]; exact heap_set hx8 10 _
    clear HX HBb MU HO HY hx8 m8 s8
    have HX := HX2
    have HBb := HB2
    have MU := MU2
    have HO := HO2
    have HY := HY2
    clear HX2 HB2 MU2 HO2 HY2
    have cm8 : W8.cell? ⟨w.heap.size, 8, none⟩ = some (.string m.uname) := (cell_of HBb.out 8).trans rfl
    have cm10 : W8.cell? ⟨w.heap.size, 10, none⟩ = some (.string m.ename) := (cell_of HBb.out 10).trans rfl
    have cm11 : W8.cell? ⟨w.heap.size, 11, none⟩ = some (.string m.name) := (cell_of HBb.out 11).trans rfl
    go_wp2_with fail
    refine (turned_any m.uname 117 _ hsm.uname).mono ?_
    rintro e w8 ⟨rfl, m8⟩
    have hx8 := (m8.block _ (lt_of HX.out) (fun x => x)).trans HX.out
    have xf : w8.frozen? ⟨bx, 8, none⟩ = false := free_of hx8 8
    have xc : w8.cell? ⟨bx, 8, none⟩ = some (.string m.uname) := (cell_of hx8 8).trans rfl
    obtain ⟨W8, hW8⟩ : ∃ W8, w8.setCell ⟨bx, 8, none⟩ (.string (rep 117 m.uname.size)) = W8 := ⟨_, rfl⟩
    have s8 : Mod (· = bx) w8 W8 := by rw [← hW8]; exact Mod.set1 _ _ _ _
    have HB2 := Lib.hid ((s8.block _ (Nat.lt_of_lt_of_le (lt_of HBb.out) m8.size) hne).trans ((m8.block _ (lt_of HBb.out) (fun x => x)).trans HBb.out))
    have MU2 := Lib.hid ((MU.out.trans m8).trans' s8 fun k hk e => by omega)
    have HO2 := Lib.hid ((HO.out.mod m8 (fun _ _ x => x)).modB s8 fun k hk e => by have := (hlx k hk).2; omega)
    have HY2 := Lib.hid ((HY.out.mod m8 (fun _ _ _ x => x)).mod s8 fun g hg hg2 e => by have h1 := hg.2; have h2 : g = bx := e; omega)
    have HX2 : Hid (W8.heap[bx]? = some (msgO { m with data := rep y m.data.size, ename := rep 101 m.ename.size, uname := rep 117 m.uname.size } vx vy)) := by rw [← hW8]; exact heap_set hx8 8 _
    clear HX HBb MU HO HY hx8 m8 s8
    have HX := HX2
    have HBb := HB2
    have MU := MU2
    have HO := HO2
    have HY := HY2
    clear HX2 HB2 MU2 HO2 HY2
    have cm8 : W8.cell? ⟨w.heap.size, 8, none⟩ = some (.string m.uname) := (cell_of HBb.out 8).trans rfl
    have cm10 : W8.cell? ⟨w.heap.size, 10, none⟩ = some (.string m.ename) := (cell_of HBb.out 10).trans rfl
    have cm11 : W8.cell? ⟨w.heap.size, 11, none⟩ = some (.string m.name) := (cell_of HBb.out 11).trans rfl
    go_wp2_with fail
    refine (turned_any m.name 110 _ hsm.name).mono ?_
    rintro e w8 ⟨rfl, m8⟩
    have hx8 := (m8.block _ (lt_of HX.out) (fun x => x)).trans HX.out
    have xf : w8.frozen? ⟨bx, 11, none⟩ = false := free_of hx8 11
    have xc : w8.cell? ⟨bx, 11, none⟩ = some (.string m.name) := (cell_of hx8 11).trans rfl
    obtain ⟨W8, hW8⟩ : ∃ W8, w8.setCell ⟨bx, 11, none⟩ (.string (rep 110 m.name.size)) = W8 := ⟨_, rfl⟩
    have s8 : Mod (· = bx) w8 W8 := by rw [← hW8]; exact Mod.set1 _ _ _ _
    have HB2 := Lib.hid ((s8.block _ (Nat.lt_of_lt_of_le (lt_of HBb.out) m8.size) hne).trans ((m8.block _ (lt_of HBb.out) (fun x => x)).trans HBb.out))
    have MU2 := Lib.hid ((MU.out.trans m8).trans' s8 fun k hk e => by omega)
    have HO2 := Lib.hid ((HO.out.mod m8 (fun _ _ x => x)).modB s8 fun k hk e => by have := (hlx k hk).2; omega)
    have HY2 := Lib.hid ((HY.out.mod m8 (fun _ _ _ x => x)).mod s8 fun g hg hg2 e => by have h1 := hg.2; have h2 : g = bx := e; omega)
    have HX2 : Hid (W8.heap[bx]? = some (msgO (turnM m y) vx vy)) := by rw [← hW8]; exact heap_set hx8 11 _
    clear HX HBb MU HO HY hx8 m8 s8
    have HX := HX2
    have HBb := HB2
    have MU := MU2
    have HO := HO2
    have HY := HY2
    clear HX2 HB2 MU2 HO2 HY2
    have cm8 : W8.cell? ⟨w.heap.size, 8, none⟩ = some (.string m.uname) := (cell_of HBb.out 8).trans rfl
    have cm10 : W8.cell? ⟨w.heap.size, 10, none⟩ = some (.string m.ename) := (cell_of HBb.out 10).trans rfl
    have cm11 : W8.cell? ⟨w.heap.size, 11, none⟩ = some (.string m.name) := (cell_of HBb.out 11).trans rfl
    go_wp2
    clear xf xc hW8 cm8 cm10 cm11 cm22
    have hfn := HN.out.form
    rw [List.length_map] at hfn
    obtain ⟨an, cn, rfl, hcn, hvx⟩ := hfn
    have hfx := HO.out.slAt.form
    rw [List.length_map] at hfx
    obtain ⟨ax, cx, rfl, hcx, _⟩ := hfx
    have hTl : (turnM m y).names.length = m.names.length := List.length_map _
    have HO1 : Hid (OwnA W8 B5 1 (.slice ax m.names.length cx) m.names.length (((turnM m y).names.take 0 ++ m.names.drop 0).map Value.string)) := by
      show OwnA _ _ _ _ _ _
      rw [List.take_zero, List.drop_zero, List.nil_append]
      exact HO.out
    have nl := hsm.nl
    clear HO
    go_loopw [8] (fun i wr => ∃ j : Nat, j ≤ m.names.length ∧ i = .int .i64 j ∧ Hid (wr.heap[bx]? = some (msgO (turnM m y) (.slice ax m.names.length cx) vy)) ∧ Hid (wr.heap[w.heap.size]? = some (msgO m (.slice an m.names.length cn) vq)) ∧ Hid (OwnA wr B5 1 (.slice ax m.names.length cx) m.names.length (((turnM m y).names.take j ++ m.names.drop j).map Value.string)) ∧ Hid (RecsAt Qd.cells 3 wr (fun g => B ≤ g ∧ g < bx) vy m.qids) ∧ Hid (Mod (fun _ => False) W wr)) (fun i _ => m.names.length - (intOf i).toNat)
    case atStart => exact ⟨0, Nat.zero_le _, rfl, HX, HBb, HO1, HY, MU⟩
    case round =>
      clear HX HBb HO1 HY MU
      obtain ⟨j, hj, rfl, HX, HBb, HO, HY, MU⟩ := hrel
      have c12x : wr.cell? ⟨bx, 12, none⟩ = some (.slice ax m.names.length cx) := (cell_of HX.out 12).trans rfl
      by_cases hjl : j < m.names.length
      · have t2 : decide ((j : Int) < (m.names.length : Int)) = true := by simp; omega
        obtain ⟨gm, om, rfl, _, hgl, hc⟩ := hvx j _ (strs_get hjl)
        have c12m : wr.cell? ⟨w.heap.size, 12, none⟩ = some (.slice (some ⟨gm, om, none⟩) m.names.length cn) := (cell_of HBb.out 12).trans rfl
        have cem := keepR MU.out hc
        have hts := hsm.names _ (List.getElem_mem hjl)
        have hmg := mix_get hTl hjl
        have hms := mix_set hTl hjl
        have hTe : (turnM m y).names[j]'(by omega) = rep 119 m.names[j].size := List.getElem_map _
        rw [hTe] at hms
        obtain ⟨gx, rfl⟩ : ∃ gx, ax = some ⟨gx, 0, none⟩ := by
          rcases HO.out.2 with ⟨h1, h2⟩ | ⟨g, cap, h1, _⟩
          · omega
          · injection h1 with e1; exact ⟨g, e1⟩
        have hgx := hlx gx rfl
        have hgB := hlB gx rfl
        have j1 : (0 : Int) ≤ (j : Int) := by omega
        have j2 : (j : Int) < (m.names.length : Int) := by omega
        generalize m.names[j] = t at *
        have hTn := fun U => turned_any t 119 U hts
        have hS0 : wr.drew.cell? ⟨bx, 12, none⟩ = some (.slice (some ⟨gx, 0, none⟩) m.names.length cx) ∧ wr.drew.cell? ⟨w.heap.size, 12, none⟩ = some (.slice (some ⟨gm, om, none⟩) m.names.length cn) ∧ wr.drew.cell? ⟨gm, om + j, none⟩ = some (.string t) := ⟨c12x, c12m, cem⟩
        have hSk : ∀ (U V : World), (U.cell? ⟨bx, 12, none⟩ = some (.slice (some ⟨gx, 0, none⟩) m.names.length cx) ∧ U.cell? ⟨w.heap.size, 12, none⟩ = some (.slice (some ⟨gm, om, none⟩) m.names.length cn) ∧ U.cell? ⟨gm, om + j, none⟩ = some (.string t)) → Mod (fun _ => False) U V → (V.cell? ⟨bx, 12, none⟩ = some (.slice (some ⟨gx, 0, none⟩) m.names.length cx) ∧ V.cell? ⟨w.heap.size, 12, none⟩ = some (.slice (some ⟨gm, om, none⟩) m.names.length cn) ∧ V.cell? ⟨gm, om + j, none⟩ = some (.string t)) := fun U V h hm => ⟨keepR hm h.1, keepR hm h.2.1, keepR hm h.2.2⟩
        clear hc hvx
        go_wp2
        refine wp_onlyN ?_
        go_region_held_law (fun w' => w'.cell? ⟨bx, 12, none⟩ = some (.slice (some ⟨gx, 0, none⟩) m.names.length cx) ∧ w'.cell? ⟨w.heap.size, 12, none⟩ = some (.slice (some ⟨gm, om, none⟩) m.names.length cn) ∧ w'.cell? ⟨gm, om + j, none⟩ = some (.string t)) (first | assumption | exact hS0 | exact hSk _ _ (by assumption) m4) (first
          | (go_at_call 21; refine (hTn _).mono ?_; rintro e w4 ⟨rfl, m4⟩; have m44 : Mod (fun _ => False) wr w4 := (Mod.refl (fun _ => False) wr).drew.trans m4; have hO4 := HO.out.mod m44 (fun _ _ x => x); have hat := hO4.at hjl; have xN := hat.1; have cN := hat.2.1 _ hmg; obtain ⟨W5, hW5⟩ : ∃ W5, w4.setCell ⟨gx, j, none⟩ (.string (rep 119 t.size)) = W5 := ⟨_, rfl⟩; have m5 : Mod (· = gx) w4 W5 := (by rw [← hW5]; exact Mod.set1 _ _ _ _); have hS4 := hSk _ _ hS0 m4; have hS5 : W5.cell? ⟨bx, 12, none⟩ = some (.slice (some ⟨gx, 0, none⟩) m.names.length cx) ∧ W5.cell? ⟨w.heap.size, 12, none⟩ = some (.slice (some ⟨gm, om, none⟩) m.names.length cn) ∧ W5.cell? ⟨gm, om + j, none⟩ = some (.string t) := ⟨keepF m5 (by omega) hS4.1, keepF m5 (by omega) hS4.2.1, keepF m5 (by omega) hS4.2.2⟩; have hO5 : Hid (OwnA W5 B5 1 (.slice (some ⟨gx, 0, none⟩) m.names.length cx) m.names.length (((turnM m y).names.take (j + 1) ++ m.names.drop (j + 1)).map Value.string)) := (by show OwnA _ _ _ _ _ _; rw [← hms, ← hW5]; exact hO4.set hjl)))
        all_goals refine onlyN_out ?_
        all_goals go_wp2
        go_roundw
        case rel =>
          have hX5 := (m5.block bx (Nat.lt_of_lt_of_le (lt_of HX.out) m44.size) (by omega)).trans ((m44.block bx (lt_of HX.out) (fun x => x)).trans HX.out)
          have hB5 := (m5.block w.heap.size (Nat.lt_of_lt_of_le (lt_of HBb.out) m44.size) (by omega)).trans ((m44.block w.heap.size (lt_of HBb.out) (fun x => x)).trans HBb.out)
          exact ⟨j + 1, hjl, by go_num, hX5, hB5, hO5, (HY.out.mod m44 (fun _ _ _ x => x)).mod m5 (fun g hg _ e => by have h1 := hg.1; have h2 : g = gx := e; omega), (MU.out.trans m44).trans' m5 fun k hk e => by omega⟩
        case measure => simp [intOf]; omega
      · obtain rfl : j = m.names.length := by omega
        have t2 : decide ((m.names.length : Int) < (m.names.length : Int)) = false := by simp
        have hnx : SlAt wr (fun _ => True) (.slice ax m.names.length cx) ((turnM m y).names.map Value.string) := by
          have h := HO.out.slAt
          rw [List.take_of_length_le (by omega), List.drop_of_length_le (by omega), List.append_nil] at h
          exact h.imp fun _ _ => trivial
        have HNX := Lib.hid hnx
        have HYX := Lib.hid (HY.out.imp (Q := fun _ => True) fun _ _ => trivial)
        have hsz := turnM_sz m y
        have hss := shapeM_sz m
        have hkx := hsz.ok hk
        have hsx := hsz.small hsm
        have hks := hss.ok hk
        have hsss := hss.small hsm
        obtain ⟨f1, f2, f3, f4, f5, f6⟩ := HFx.out
        have hrx : ∀ U, Mod (fun _ => False) wr U → U.rangeAt bx 0 ((turnM m y).cells (.slice ax m.names.length cx) vy) := fun U hU j u hu => by rw [Nat.zero_add, cell_of ((hU.block _ (lt_of HX.out) (fun x => x)).trans HX.out), List.getElem?_toArray]; exact hu
        have hCx := fun U (hU : Mod (fun _ => False) wr U) => copied_any (turnM m y) _ _ _ U hsx.nl hsx.ql (HNX.out.mod hU fun _ _ _ x => x) (HYX.out.mod hU fun _ _ _ x => x)
        have hEx := fun U a b c d e => enc_lt (turnM m y) a b c U hkx hsx d e
        have hS1 := fun U a b c d e f => shape24_any m a b c U hk hsm d e f
        have hS2 := fun U (hU : Mod (fun _ => False) wr U) => shape24_any (turnM m y) _ _ _ U hkx hsx (HNX.out.mod hU fun _ _ _ x => x) (HYX.out.mod hU fun _ _ _ x => x) ((HT.out.mod MU.out).mod hU)
        have hS3 := fun U a b c d e f => shape24_any (shapeM m) a b c U hks hsss d e f
        rw [f1] at hEx
        rw [f3] at hS2
        rw [f6] at hS3
        have hDs := fun U hU => dec24_any (shapeB m) U (by show _ ≤ 9223372036854775807; omega) hU
        rw [f5] at hDs
        generalize (encM (turnM m y)).1 = A2 at *
        generalize shapeB m = S at *
        have hl1 : ((turnM m y).cells (.slice ax m.names.length cx) vy).length = 36 := rfl
        have hx0 := hrx wr (Mod.refl _ _)
        clear f1 f3 f5 f6 HFx HO hnx hvx HY
        have hBk : ∀ U, Mod (fun _ => False) wr U → U.heap[w.heap.size]? = some (msgO m (.slice an m.names.length cn) vq) := fun U hU => (hU.block _ (lt_of HBb.out) (fun x => x)).trans HBb.out
        go_wp2_with (first
          | refine wpList_load_mid rfl 33 (.tmp 7) rfl bx 0 rfl ((turnM m y).cells (.slice ax m.names.length cx) vy) _ hx0 Tryz.underlying33 rfl (by kernel_rfl) ?_
          | (go_at_call 16; refine (hCx _ (Mod.refl _ _)).mono ?_; rintro e w10 ⟨v10, u10, rfl, hn10, hq10, m10⟩; have M10 := Lib.hid m10; clear hx0 hCx m10)
          | (go_at_call 15; refine (hEx _ _ _ _ hn10 hq10 ((HT.out.mod MU.out).mod M10.out)).mono ?_; rintro e w11 ⟨rfl, m11⟩; have M11 := M10.out.trans m11; have hr11 := hrk _ (MU.out.trans M11); clear M10 m11 hn10 hq10 hEx)
          | refine wpList_load_mid rfl 33 (.tmp 2) rfl w.heap.size 0 rfl (m.cells (.slice an m.names.length cn) vq) _ hr11 Tryz.underlying33 rfl (by kernel_rfl) ?_
          | (go_at_call 16; refine (hCp _ (MU.out.trans M11)).mono ?_; rintro e w12 ⟨v12, u12, rfl, hn12, hq12, m12⟩; have M12 := Lib.hid (M11.trans m12); clear M11 hr11 m12)
          | (go_at_call 19; refine (hS1 _ _ _ _ hn12 hq12 ((HT.out.mod MU.out).mod M12.out)).mono ?_; rintro e w13 ⟨rfl, m13⟩; have M13 := Lib.hid (M12.out.trans m13); clear M12 m13 hn12 hq12 hS1)
          | (go_at_call 9; refine (hDs _ ((HT.out.mod MU.out).mod M13.out)).mono ?_; rintro e w14 ⟨v14, u14, rfl, hn14, hq14, m14⟩; have M14 := Lib.hid (M13.out.trans m14); clear M13 m14 hDs; have z1 : v14.oneCell' = true := (by obtain ⟨a, c, rfl, _⟩ := hn14.form; rfl); have z2 : u14.oneCell' = true := (by obtain ⟨a, c, rfl, _⟩ := hq14.form; rfl))
          | (refine wpl_store_row rfl 33 (.tmp 12) (.tmp 77) rfl rfl w14.heap.size ((shapeM m).cells v14 u14) rfl rfl 33 _ (new_at w14 _) rfl (msg_one _ _ _ z1 z2) (by kernel_rfl) ?_; intro V15 hv15 mv15; have g15 : Mod (fun _ => False) w14 V15 := ((Mod.refl (fun _ => False) w14).alloc _).trans' mv15 fun k hk e => (by omega); have M15 := M14.out.trans g15; have hn15 := hn14.mod g15 fun _ _ _ x => x; have hq15 := hq14.mod g15 fun _ _ _ x => x; have hx15 := hrx _ M15; have hv15 : V15.heap[w14.heap.size]? = some (msgO (shapeM m) v14 u14) := hv15; clear mv15 M14 hn14 hq14 g15)
          | refine wpList_load_mid rfl 33 (.tmp 7) rfl bx 0 rfl ((turnM m y).cells (.slice ax m.names.length cx) vy) _ hx15 Tryz.underlying33 rfl (by kernel_rfl) ?_
          | (go_at_call 19; refine (hS2 _ M15).mono ?_; rintro e w16 ⟨rfl, m16⟩; have M16 := Lib.hid (M15.trans m16); have hv16 := (m16.block _ (lt_of hv15) (fun x => x)).trans hv15; have hn16 := hn15.mod m16 fun _ _ _ x => x; have hq16 := hq15.mod m16 fun _ _ _ x => x; have hy16 : w16.rangeAt w14.heap.size 0 ((shapeM m).cells v14 u14) := fun j u hu => (by rw [Nat.zero_add, cell_of hv16, List.getElem?_toArray]; exact hu); clear M15 hx15 m16 hn15 hq15 hv15 hS2)
          | refine wpList_load_guard 33 (.tmp 12) rfl rfl w14.heap.size 0 rfl ((shapeM m).cells v14 u14) _ hy16 Tryz.underlying33 rfl (by kernel_rfl) ?_
          | (go_at_call 19; refine (hS3 _ _ _ _ hn16 hq16 ((HT.out.mod MU.out).mod M16.out)).mono ?_; rintro e w17 ⟨rfl, m17⟩; have M17 := Lib.hid (M16.out.trans m17); have hv17 := (m17.block _ (lt_of hv16) (fun x => x)).trans hv16; have hb17 := hBk _ M17.out; have a0 : w17.cell? ⟨w14.heap.size, 0, none⟩ = some (.int .u8 m.ty) := (cell_of hv17 0).trans rfl; have a1 : w17.cell? ⟨w14.heap.size, 1, none⟩ = some (.int .u16 m.tag) := (cell_of hv17 1).trans rfl; have a4 : w17.cell? ⟨w14.heap.size, 4, none⟩ = some (.int .u32 m.fid) := (cell_of hv17 4).trans rfl; have a20 : w17.cell? ⟨w14.heap.size, 20, none⟩ = some (.int .u64 m.offset) := (cell_of hv17 20).trans rfl; have a21 : w17.cell? ⟨w14.heap.size, 21, none⟩ = some (.int .u32 m.count) := (cell_of hv17 21).trans rfl; have d0 : w17.cell? ⟨w.heap.size, 0, none⟩ = some (.int .u8 m.ty) := (cell_of hb17 0).trans rfl; have d1 : w17.cell? ⟨w.heap.size, 1, none⟩ = some (.int .u16 m.tag) := (cell_of hb17 1).trans rfl; have d4 : w17.cell? ⟨w.heap.size, 4, none⟩ = some (.int .u32 m.fid) := (cell_of hb17 4).trans rfl; have d20 : w17.cell? ⟨w.heap.size, 20, none⟩ = some (.int .u64 m.offset) := (cell_of hb17 20).trans rfl; have d21 : w17.cell? ⟨w.heap.size, 21, none⟩ = some (.int .u32 m.count) := (cell_of hb17 21).trans rfl; clear hv16 hv17 hb17 hn16 hq16 hy16 M16 m17 hS3)
          | (go_at_call 8; refine (hWk _ (MU.out.trans M17.out)).mono ?_; rintro e w18 ⟨rfl, m18⟩))
        go_ret
        exact ⟨rfl, ((M0.out.trans MU.out).trans M17.out).trans m18⟩
end Go.Proofs.YtklpopmjpgdjnaaGreatDoor
