/- Package dir's Put, Drop, Rename. -/
import Derived.Test.YtfkmfllhlhefdaaDoorDirOps
import Derived.Test.YtfkmfllhlhefdaaDoorDirSlot
namespace Go.Proofs.YtfkmfllhlhefdaaDoor
open Go.RowKit

/-- the three results -/
def putV (r : ByteArray × Nat × Int) : Value := .tuple #[.string r.1, .int .i64 r.2.1, .int .i64 r.2.2]
set_option maxHeartbeats 1000000 in
set_option maxRecDepth 100000 in
theorem drop_any (s n : ByteArray) (w : World) (hs : s.size ≤ 1099511627776) (hn : n.size ≤ 1099511627776) (hT : Tabs w) :
    Calls Tryd.prog 17 #[.string s, .string n] w fun e w' => e = .returned (putV (dropS s n)) ∧ Mod (fun _ => False) w w' := by
  have hV : dropS s n = match listS s with | none => (ByteArray.empty, 0, 51) | some l => match findE l n with | none => (ByteArray.empty, 0, 5) | some e => (withS s e.slot freeB, e.slot, 0) := rfl
  go_enter Tryd.func17, Tryd.ntmps17
  go_wp2_with fail
  refine (load_any s _ hs hT).mono ?_
  rintro e w1 ⟨mn, mp, sl, f, rfl, hO⟩
  obtain ⟨oN, oP, oL, oF, oM⟩ := hO
  obtain ⟨sa, sc, hsl, hsc, hsx⟩ := oL.form
  obtain ⟨mn, rfl⟩ := oN.form
  obtain ⟨mp, rfl⟩ := oP.form
  subst hsl
  generalize hsn : ((listS s).getD []).length = sn at *
  obtain ⟨W2, hW2⟩ : ∃ W2, w1.alloc (.cells #[.map mn, .map mp, .slice sa sn sc, .int .i64 f] 58) = W2 := ⟨_, rfl⟩
  have hb2 : W2.heap[w1.heap.size]? = some (.cells #[.map mn, .map mp, .slice sa sn sc, .int .i64 f] 58 (0, 0)) := by subst hW2; exact new_at _ _
  have m2 : Mod (fun _ => False) w1 W2 := by subst hW2; exact (Mod.refl _ _).alloc _
  have oN := oN.mod m2
  have oP := oP.mod m2
  have oL := oL.mod m2 (fun g _ _ x => x)
  have m2 := oM.trans m2
  have hT2 := hT.mod m2
  have q0 : W2.cell? ⟨w1.heap.size, 0, none⟩ = some (.map mn) := (cell_of hb2 0).trans rfl
  have q1 : W2.cell? ⟨w1.heap.size, 1, none⟩ = some (.map mp) := (cell_of hb2 1).trans rfl
  have q2 : W2.cell? ⟨w1.heap.size, 2, none⟩ = some (.slice sa sn sc) := (cell_of hb2 2).trans rfl
  have q3 : W2.cell? ⟨w1.heap.size, 3, none⟩ = some (.int .i64 f) := (cell_of hb2 3).trans rfl
  clear hb2 oM hsx
  cases hl : listS s with
  | none =>
    rw [hl] at hV
    have hV := Lib.hid hV
    clear oN oP oL oF hsn
    go_wp2
    go_ret3
    exact ⟨by rw [(hV).out]; rfl, by first | exact m2 | exact m2.alloc _ | exact m3 | exact m4⟩
  | some l =>
    rw [hl] at hV oN
    simp only [Option.getD_some] at hV oN
    have hLk := oN.look n (by unfold maxLen; omega)
    have hE : ent0 l n = (findE l n).getD ⟨0, 0, ⟨#[]⟩⟩ := rfl
    have hd := listS_iff.1 hl
    clear oN oP oL oF hsn
    cases hf : findE l n with
    | none =>
      rw [hf] at hV hE hLk
      rw [hE] at hLk
      simp only [Option.getD_none, Option.isSome_none] at hLk hV
      have hV := Lib.hid hV
      clear hE hd
      go_wp2
      go_ret3
      exact ⟨by rw [(hV).out]; rfl, by first | exact m2 | exact m2.alloc _ | exact m3 | exact m4⟩
    | some e =>
      rw [hf] at hV hE hLk
      rw [hE] at hLk
      simp only [Option.getD_some, Option.isSome_some] at hLk hV
      have hem : e.slot < s.size / 64 := by
        obtain ⟨hd, rfl⟩ := hd
        exact (hd.mem ((find_iff hd.apart).1 hf).1).1
      have hsz := hd.1.size
      have hfb := freeB_size
      have hWi := fun U => with_any s freeB e.slot U hs (by omega) (by omega) (by omega)
      have hFr := fun U => free_any U
      clear hE hd hf hfb
      obtain ⟨eS, eP, eN⟩ := e
      simp only at hLk hV hWi hem
      generalize withS s eS freeB = ws at *
      generalize freeB = fb at *
      have hV := Lib.hid hV
      obtain ⟨W3, hW3⟩ : ∃ Wx, (W2).alloc (.cells #[.int .i64 eS, .int .u64 eP, .string eN] 36) = Wx := ⟨_, rfl⟩
      have hb3 : (W3).heap[(W2).heap.size]? = some (.cells #[.int .i64 eS, .int .u64 eP, .string eN] 36 (0, 0)) := by subst hW3; exact new_at _ _
      have ma3 : Mod (fun _ => False) W2 W3 := by subst hW3; exact (Mod.refl _ _).alloc _
      have m3 := m2.trans ma3
      have p0 : W3.cell? ⟨W2.heap.size, 0, none⟩ = some (.int .i64 eS) := (cell_of hb3 0).trans rfl
      have k0 : ∀ U, Mod (fun _ => False) W3 U → U.cell? ⟨W2.heap.size, 0, none⟩ = some (.int .i64 eS) := fun U hU => keepR hU p0
      go_wp2
      refine wp_onlyN ?_
      go_region_held_law (fun w' => w'.cell? ⟨W2.heap.size, 0, none⟩ = some (.int .i64 eS)) (first | exact p0 | exact keepR m4 (by assumption) | exact keepR m5 (by assumption)) (first
        | (go_at_call 35; refine (hFr _).mono ?_; rintro e w4 ⟨rfl, m4⟩)
        | (go_at_call 31; refine (hWi _).mono ?_; rintro e w5 ⟨rfl, m5⟩))
      all_goals refine onlyN_out ?_
      go_wp2
      go_ret3
      exact ⟨by rw [hV.out]; rfl, (m3.drew.trans m4).trans m5⟩
set_option maxHeartbeats 1000000 in
set_option maxRecDepth 100000 in
theorem put_any (s n : ByteArray) (p : Nat) (w : World) (hs : s.size ≤ 1099511627776) (hn : n.size ≤ 1099511627776) (hp : p < 18446744073709551616) (hT : Tabs w) :
    Calls Tryd.prog 13 #[.string s, .string n, .int .u64 p] w fun e w' => e = .returned (putV (putS s n p)) ∧ Mod (fun _ => False) w w' := by
  have hV : putS s n p = match listS s with | none => (ByteArray.empty, 0, 51) | some l => if nameOk n = false then (ByteArray.empty, 0, 183) else if p = 0 ∨ hasP l p = true then (ByteArray.empty, 0, 2) else if hasN l n = true then (ByteArray.empty, 0, 184) else if 112 ≤ freeAt s then (ByteArray.empty, 0, 6) else (withS s (freeAt s) (slotB p n), freeAt s, 0) := rfl
  go_enter Tryd.func13, Tryd.ntmps13
  go_wp2_with fail
  refine (load_any s _ hs hT).mono ?_
  rintro e w1 ⟨mn, mp, sl, f, rfl, hO⟩
  obtain ⟨oN, oP, oL, oF, oM⟩ := hO
  obtain ⟨sa, sc, hsl, hsc, hsx⟩ := oL.form
  obtain ⟨mn, rfl⟩ := oN.form
  obtain ⟨mp, rfl⟩ := oP.form
  subst hsl
  generalize hsn : ((listS s).getD []).length = sn at *
  obtain ⟨W2, hW2⟩ : ∃ W2, w1.alloc (.cells #[.map mn, .map mp, .slice sa sn sc, .int .i64 f] 58) = W2 := ⟨_, rfl⟩
  have hb2 : W2.heap[w1.heap.size]? = some (.cells #[.map mn, .map mp, .slice sa sn sc, .int .i64 f] 58 (0, 0)) := by subst hW2; exact new_at _ _
  have m2 : Mod (fun _ => False) w1 W2 := by subst hW2; exact (Mod.refl _ _).alloc _
  have oN := oN.mod m2
  have oP := oP.mod m2
  have oL := oL.mod m2 (fun g _ _ x => x)
  have m2 := oM.trans m2
  have hT2 := hT.mod m2
  have q0 : W2.cell? ⟨w1.heap.size, 0, none⟩ = some (.map mn) := (cell_of hb2 0).trans rfl
  have q1 : W2.cell? ⟨w1.heap.size, 1, none⟩ = some (.map mp) := (cell_of hb2 1).trans rfl
  have q2 : W2.cell? ⟨w1.heap.size, 2, none⟩ = some (.slice sa sn sc) := (cell_of hb2 2).trans rfl
  have q3 : W2.cell? ⟨w1.heap.size, 3, none⟩ = some (.int .i64 f) := (cell_of hb2 3).trans rfl
  clear hb2 oM hsx
  cases hl : listS s with
  | none =>
    rw [hl] at hV
    have hV := Lib.hid hV
    clear oN oP oL oF hsn
    go_wp2
    go_ret3
    exact ⟨by rw [(hV).out]; rfl, by first | exact m2 | exact m2.alloc _ | exact m3 | exact m4⟩
  | some l =>
    rw [hl] at hV oN oP oF
    simp only [Option.getD_some, Option.isSome_some, forall_const] at hV oN oP oF
    subst oF
    have hLk := oN.look n (by unfold maxLen; omega)
    rw [← has_find] at hLk
    have hd := listS_iff.1 hl
    have hle := freeAt_le s
    have hsz := hd.1.size
    have hNm := fun U => name_any n U (by omega)
    have hSl := fun h U => slot_any p n U hp h
    have hns := fun h => (nameOk_size (s := n) h).2
    have hWi := fun (h : n.size ≤ 55) U => with_any s (slotB p n) (freeAt s) U hs (by omega) (by rw [slotB_size h]; omega) (by omega)
    generalize (ent0 l n).slot = eS at *
    generalize (ent0 l n).path = eP at *
    generalize (ent0 l n).name = eN at *
    clear oN oL hsn hd
    obtain ⟨W3, hW3⟩ : ∃ Wx, (W2).alloc (.cells #[.int .i64 eS, .int .u64 eP, .string eN] 36) = Wx := ⟨_, rfl⟩
    have hb3 : (W3).heap[(W2).heap.size]? = some (.cells #[.int .i64 eS, .int .u64 eP, .string eN] 36 (0, 0)) := by subst hW3; exact new_at _ _
    have ma3 : Mod (fun _ => False) W2 W3 := by subst hW3; exact (Mod.refl _ _).alloc _
    have m3 := m2.trans ma3
    have hT3 := hT.mod m3
    have q1 := keepR ma3 q1
    have q3 := keepR ma3 q3
    have oP := oP.mod ma3
    generalize freeAt s = fa at *
    generalize slotB p n = sb at *
    generalize withS s fa sb = ws at *
    clear hb3
    cases hnk : nameOk n with
    | false =>
      rw [hnk] at hNm hV
      simp only [if_true] at hV
      have hV := Lib.hid hV
      clear oP
      go_wp2_with fail
      refine (hNm _ hT3).mono ?_
      rintro e w4 ⟨rfl, m4⟩
      have m4 := m3.trans m4
      go_wp2
      go_ret3
      exact ⟨by rw [(hV).out]; rfl, by first | exact m2 | exact m2.alloc _ | exact m3 | exact m4⟩
    | true =>
      rw [hnk] at hNm hV
      simp only [Bool.true_eq_false, if_false] at hV
      have hns := hns hnk
      have hSl := hSl hns
      have hWi := hWi hns
      go_wp2_with fail
      refine (hNm _ hT3).mono ?_
      rintro e w4 ⟨rfl, m34⟩
      have m4 := m3.trans m34
      have hLp := (oP.mod m34).look p hp
      have q1 := keepR m34 q1
      have q3 := keepR m34 q3
      clear oP hNm hT3
      by_cases hp0 : p = 0
      · have t1 : ((p : Int) == 0) = true := by subst hp0; rfl
        rw [if_pos (Or.inl hp0)] at hV
        have hV := Lib.hid hV
        clear hp0
        go_wp2
        go_ret3
        exact ⟨by rw [(hV).out]; rfl, by first | exact m2 | exact m2.alloc _ | exact m3 | exact m4⟩
      have t1 : ((p : Int) == 0) = false := by simp; omega
      cases hpp : hasP l p with
      | true =>
        rw [hpp] at hLp
        rw [if_pos (Or.inr hpp)] at hV
        have hV := Lib.hid hV
        clear hp0
        go_wp2
        go_ret3
        exact ⟨by rw [(hV).out]; rfl, by first | exact m2 | exact m2.alloc _ | exact m3 | exact m4⟩
      | false =>
        rw [hpp] at hLp hV
        rw [if_neg (by simp [hp0])] at hV
        clear hp0
        cases hnn : hasN l n with
        | true =>
          rw [hnn] at hLk hV
          rw [if_pos rfl] at hV
          have hV := Lib.hid hV
          go_wp2
          go_ret3
          exact ⟨by rw [(hV).out]; rfl, by first | exact m2 | exact m2.alloc _ | exact m3 | exact m4⟩
        | false =>
          rw [hnn] at hLk hV
          rw [if_neg (by decide)] at hV
          by_cases h112 : 112 ≤ fa
          · have t2 : decide ((112 : Int) ≤ (fa : Int)) = true := by simp; omega
            rw [if_pos h112] at hV
            have hV := Lib.hid hV
            go_wp2
            go_ret3
            exact ⟨by rw [(hV).out]; rfl, by first | exact m2 | exact m2.alloc _ | exact m3 | exact m4⟩
          · have t2 : decide ((112 : Int) ≤ (fa : Int)) = false := by simp; omega
            rw [if_neg h112] at hV
            have hV := Lib.hid hV
            go_wp2
            refine wp_onlyN ?_
            go_region_held_law (fun w' => w'.cell? ⟨w1.heap.size, 3, none⟩ = some (.int .i64 fa)) (first | exact q3 | exact keepR m5 (by assumption) | exact keepR m6 (by assumption)) (first
              | (go_at_call 32; refine (hSl _).mono ?_; rintro e w5 ⟨rfl, m5⟩)
              | (go_at_call 31; refine (hWi _).mono ?_; rintro e w6 ⟨rfl, m6⟩))
            all_goals refine onlyN_out ?_
            go_wp2
            go_ret3
            exact ⟨by rw [hV.out]; rfl, (m4.drew.trans m5).trans m6⟩
set_option maxHeartbeats 1000000 in
set_option maxRecDepth 100000 in
theorem rename_any (s o n : ByteArray) (w : World) (hs : s.size ≤ 1099511627776) (ho : o.size ≤ 1099511627776) (hn : n.size ≤ 1099511627776) (hT : Tabs w) :
    Calls Tryd.prog 24 #[.string s, .string o, .string n] w fun e w' => e = .returned (putV (renS s o n)) ∧ Mod (fun _ => False) w w' := by
  have hV : renS s o n = match listS s with | none => (ByteArray.empty, 0, 51) | some l => match findE l o with | none => (ByteArray.empty, 0, 5) | some e => if nameOk n = false then (ByteArray.empty, 0, 183) else match findE l n with | some e2 => if e2.slot = e.slot then (withS s e.slot (slotB e.path n), e.slot, 0) else (ByteArray.empty, 0, 184) | none => (withS s e.slot (slotB e.path n), e.slot, 0) := rfl
  go_enter Tryd.func24, Tryd.ntmps24
  go_wp2_with fail
  refine (load_any s _ hs hT).mono ?_
  rintro e w1 ⟨mn, mp, sl, f, rfl, hO⟩
  obtain ⟨oN, oP, oL, oF, oM⟩ := hO
  obtain ⟨sa, sc, hsl, hsc, hsx⟩ := oL.form
  obtain ⟨mn, rfl⟩ := oN.form
  obtain ⟨mp, rfl⟩ := oP.form
  subst hsl
  generalize hsn : ((listS s).getD []).length = sn at *
  obtain ⟨W2, hW2⟩ : ∃ W2, w1.alloc (.cells #[.map mn, .map mp, .slice sa sn sc, .int .i64 f] 58) = W2 := ⟨_, rfl⟩
  have hb2 : W2.heap[w1.heap.size]? = some (.cells #[.map mn, .map mp, .slice sa sn sc, .int .i64 f] 58 (0, 0)) := by subst hW2; exact new_at _ _
  have m2 : Mod (fun _ => False) w1 W2 := by subst hW2; exact (Mod.refl _ _).alloc _
  have oN := oN.mod m2
  have oP := oP.mod m2
  have oL := oL.mod m2 (fun g _ _ x => x)
  have m2 := oM.trans m2
  have hT2 := hT.mod m2
  have q0 : W2.cell? ⟨w1.heap.size, 0, none⟩ = some (.map mn) := (cell_of hb2 0).trans rfl
  have q1 : W2.cell? ⟨w1.heap.size, 1, none⟩ = some (.map mp) := (cell_of hb2 1).trans rfl
  have q2 : W2.cell? ⟨w1.heap.size, 2, none⟩ = some (.slice sa sn sc) := (cell_of hb2 2).trans rfl
  have q3 : W2.cell? ⟨w1.heap.size, 3, none⟩ = some (.int .i64 f) := (cell_of hb2 3).trans rfl
  clear hb2 oM hsx
  cases hl : listS s with
  | none =>
    rw [hl] at hV
    have hV := Lib.hid hV
    clear oN oP oL oF hsn
    go_wp2
    go_ret3
    exact ⟨by rw [(hV).out]; rfl, by first | exact m2 | exact m2.alloc _ | exact m3 | exact m4⟩
  | some l =>
    rw [hl] at hV oN
    simp only [Option.getD_some] at hV oN
    have hL1 := oN.look o (by unfold maxLen; omega)
    have hE : ent0 l o = (findE l o).getD ⟨0, 0, ⟨#[]⟩⟩ := rfl
    have hE2 : ent0 l n = (findE l n).getD ⟨0, 0, ⟨#[]⟩⟩ := rfl
    have hd := listS_iff.1 hl
    have hsz := hd.1.size
    have hNm := fun U => name_any n U (by omega)
    have hns := fun h => (nameOk_size (s := n) h).2
    have hmem : ∀ e, findE l o = some e → e.slot < s.size / 64 ∧ e.path < 18446744073709551616 := fun e he => by
      obtain ⟨hd, rfl⟩ := hd
      have := hd.mem ((find_iff hd.apart).1 he).1
      exact ⟨this.1, this.2.2.2.1⟩
    clear oP oL oF hsn hd
    cases hf : findE l o with
    | none =>
      rw [hf] at hV hE hL1
      rw [hE] at hL1
      simp only [Option.getD_none, Option.isSome_none] at hL1 hV
      have hV := Lib.hid hV
      clear hE hmem hns
      obtain ⟨W3, hW3⟩ : ∃ W3, W2.alloc (.cells #[.int .i64 0, .int .u64 0, .string ⟨#[]⟩] 36) = W3 := ⟨_, rfl⟩
      have ma3 : Mod (fun _ => False) W2 W3 := by subst hW3; exact (Mod.refl _ _).alloc _
      have hz3 : W3.heap[W2.heap.size]? = some (.cells #[.int .i64 0, .int .u64 0, .string ⟨#[]⟩] 36 (0, 0)) := by subst hW3; exact new_at _ _
      have z0 : W3.cell? ⟨W2.heap.size, 0, none⟩ = some (.int .i64 0) := cell_of hz3 0
      have z1 : W3.cell? ⟨W2.heap.size, 1, none⟩ = some (.int .u64 0) := cell_of hz3 1
      have z2 : W3.cell? ⟨W2.heap.size, 2, none⟩ = some (.string ⟨#[]⟩) := cell_of hz3 2
      have zf0 : W3.frozen? ⟨W2.heap.size, 0, none⟩ = false := free_of hz3 0
      have zf1 : W3.frozen? ⟨W2.heap.size, 1, none⟩ = false := free_of hz3 1
      have zf2 : W3.frozen? ⟨W2.heap.size, 2, none⟩ = false := free_of hz3 2
      have zs0 : W3.setCell ⟨W2.heap.size, 0, none⟩ (.int .i64 0) = W3 := setCell_idR hz3 rfl
      have zs1 : W3.setCell ⟨W2.heap.size, 1, none⟩ (.int .u64 0) = W3 := setCell_idR hz3 rfl
      have zs2 : W3.setCell ⟨W2.heap.size, 2, none⟩ (.string ⟨#[]⟩) = W3 := setCell_idR hz3 rfl
      clear hz3
      have hL2 := (oN.mod ma3).look n (by unfold maxLen; omega)
      have q0 := keepR ma3 q0
      have m3 := m2.trans ma3
      clear oN
      generalize (ent0 l n).slot = fS at *
      generalize (ent0 l n).path = fP at *
      generalize (ent0 l n).name = fM at *
      generalize (findE l n).isSome = fI at *
      go_wp2
      go_ret3
      exact ⟨by rw [hV.out]; rfl, m3.alloc _⟩
    | some e =>
      rw [hf] at hV hE hL1
      rw [hE] at hL1
      simp only [Option.getD_some, Option.isSome_some] at hL1 hV
      obtain ⟨he1, he2⟩ := hmem e hf
      obtain ⟨eS, eP, eN⟩ := e
      simp only at hL1 hV he1 he2
      have hSl := fun h U => slot_any eP n U he2 h
      have hWi := fun (h : n.size ≤ 55) U => with_any s (slotB eP n) eS U hs (by omega) (by rw [slotB_size h]; omega) (by omega)
      clear hE hmem hf
      obtain ⟨W3, hW3⟩ : ∃ Wx, (W2).alloc (.cells #[.int .i64 eS, .int .u64 eP, .string eN] 36) = Wx := ⟨_, rfl⟩
      have hb3 : (W3).heap[(W2).heap.size]? = some (.cells #[.int .i64 eS, .int .u64 eP, .string eN] 36 (0, 0)) := by subst hW3; exact new_at _ _
      have ma3 : Mod (fun _ => False) W2 W3 := by subst hW3; exact (Mod.refl _ _).alloc _
      have m3 := m2.trans ma3
      have hL2 := (oN.mod ma3).look n (by unfold maxLen; omega)
      have q0b := keepR ma3 q0
      have p0 : W3.cell? ⟨W2.heap.size, 0, none⟩ = some (.int .i64 eS) := (cell_of hb3 0).trans rfl
      have p1 : W3.cell? ⟨W2.heap.size, 1, none⟩ = some (.int .u64 eP) := (cell_of hb3 1).trans rfl
      clear oN hb3
      generalize hfS : (ent0 l n).slot = fS at *
      generalize (ent0 l n).path = fP at *
      generalize (ent0 l n).name = fM at *
      obtain ⟨W4, hW4⟩ : ∃ Wx, (W3).alloc (.cells #[.int .i64 fS, .int .u64 fP, .string fM] 36) = Wx := ⟨_, rfl⟩
      have hb4 : (W4).heap[(W3).heap.size]? = some (.cells #[.int .i64 fS, .int .u64 fP, .string fM] 36 (0, 0)) := by subst hW4; exact new_at _ _
      have ma4 : Mod (fun _ => False) W3 W4 := by subst hW4; exact (Mod.refl _ _).alloc _
      have m4 := m3.trans ma4
      have hT4 := hT.mod m4
      have p0 := keepR ma4 p0
      have p1 := keepR ma4 p1
      have p2 : W4.cell? ⟨W3.heap.size, 0, none⟩ = some (.int .i64 fS) := (cell_of hb4 0).trans rfl
      clear hb4
      generalize slotB eP n = sb at *
      generalize withS s eS sb = ws at *
      cases hnk : nameOk n with
      | false =>
        rw [hnk] at hNm hV
        simp only [if_true] at hV
        have hV := Lib.hid hV
        generalize (findE l n).isSome = fI at *
        go_wp2_with fail
        refine (hNm _ hT4).mono ?_
        rintro e w5 ⟨rfl, m5⟩
        have m4 := m4.trans m5
        go_wp2
        go_ret3
        exact ⟨by rw [(hV).out]; rfl, by first | exact m2 | exact m2.alloc _ | exact m3 | exact m4⟩
      | true =>
        rw [hnk] at hNm hV
        simp only [Bool.true_eq_false, if_false] at hV
        have hns := hns hnk
        have hSl := hSl hns
        have hWi := hWi hns
        have hgo : Hid ((findE l n).isSome = true → fS ≠ eS → renS s o n = (ByteArray.empty, 0, 184)) := by
          intro h1 h2
          rw [hV]
          cases hf : findE l n with
          | none => rw [hf] at h1; cases h1
          | some g =>
            rw [hE2, hf] at hfS
            have hfS : g.slot = fS := hfS
            simp only
            rw [if_neg (by rw [hfS]; exact h2)]
        have hgo2 : Hid (((findE l n).isSome = false ∨ fS = eS) → renS s o n = (ws, eS, 0)) := by
          intro h1
          rw [hV]
          cases hf : findE l n with
          | none => rfl
          | some g =>
            rw [hE2, hf] at hfS
            have hfS : g.slot = fS := hfS
            simp only
            rw [if_pos (by rw [hfS]; exact h1.resolve_left (by rw [hf]; simp))]
        clear hV hE2
        generalize hfI : (findE l n).isSome = fI at *
        by_cases hbad : fI = true ∧ fS ≠ eS
        · obtain ⟨rfl, hne⟩ := hbad
          have t1 : ((fS : Int) != (eS : Int)) = true := by simp; omega
          have hV := Lib.hid (hgo.out rfl hne)
          clear hgo hgo2 hne hSl hWi hfS
          go_wp2_with fail
          refine (hNm _ hT4).mono ?_
          rintro e w5 ⟨rfl, m5⟩
          have p0 := keepR m5 p0
          have p2 := keepR m5 p2
          have m4 := m4.trans m5
          go_wp2
          go_ret3
          exact ⟨by rw [(hV).out]; rfl, by first | exact m2 | exact m2.alloc _ | exact m3 | exact m4⟩
        · have hV := Lib.hid (hgo2.out (by cases fI with | false => exact Or.inl rfl | true => exact Or.inr (Decidable.byContradiction fun h => hbad ⟨rfl, h⟩)))
          clear hgo hgo2
          cases fI with
          | false =>
            clear hbad hfS
            go_wp2_with fail
            refine (hNm _ hT4).mono ?_
            rintro e w5 ⟨rfl, m5⟩
            have p0 := keepR m5 p0
            have p1 := keepR m5 p1
            have p2 := keepR m5 p2
            have m5 := m4.trans m5
            have hSk : ∀ U V, Mod (fun _ => False) U V → (U.cell? ⟨W2.heap.size, 0, none⟩ = some (.int .i64 eS) ∧ U.cell? ⟨W2.heap.size, 1, none⟩ = some (.int .u64 eP)) → (V.cell? ⟨W2.heap.size, 0, none⟩ = some (.int .i64 eS) ∧ V.cell? ⟨W2.heap.size, 1, none⟩ = some (.int .u64 eP)) := fun U V hm h => ⟨keepR hm h.1, keepR hm h.2⟩
            go_wp2
            refine wp_onlyN ?_
            go_region_held_law (fun w' => w'.cell? ⟨W2.heap.size, 0, none⟩ = some (.int .i64 eS) ∧ w'.cell? ⟨W2.heap.size, 1, none⟩ = some (.int .u64 eP)) (first | exact ⟨p0, p1⟩ | exact hSk _ _ m6 (by assumption) | exact hSk _ _ m7 (by assumption)) (first
              | (go_at_call 32; refine (hSl _).mono ?_; rintro e w6 ⟨rfl, m6⟩)
              | (go_at_call 31; refine (hWi _).mono ?_; rintro e w7 ⟨rfl, m7⟩))
            all_goals refine onlyN_out ?_
            go_wp2
            go_ret3
            exact ⟨by rw [hV.out]; rfl, (m5.drew.trans m6).trans m7⟩
          | true =>
            have t1 : ((fS : Int) != (eS : Int)) = false := by
              have : fS = eS := Decidable.byContradiction fun h => hbad ⟨rfl, h⟩
              simp [this]
            clear hbad hfS
            go_wp2_with fail
            refine (hNm _ hT4).mono ?_
            rintro e w5 ⟨rfl, m5⟩
            have p0 := keepR m5 p0
            have p1 := keepR m5 p1
            have p2 := keepR m5 p2
            have m5 := m4.trans m5
            have hSk : ∀ U V, Mod (fun _ => False) U V → (U.cell? ⟨W2.heap.size, 0, none⟩ = some (.int .i64 eS) ∧ U.cell? ⟨W2.heap.size, 1, none⟩ = some (.int .u64 eP)) → (V.cell? ⟨W2.heap.size, 0, none⟩ = some (.int .i64 eS) ∧ V.cell? ⟨W2.heap.size, 1, none⟩ = some (.int .u64 eP)) := fun U V hm h => ⟨keepR hm h.1, keepR hm h.2⟩
            go_wp2
            refine wp_onlyN ?_
            go_region_held_law (fun w' => w'.cell? ⟨W2.heap.size, 0, none⟩ = some (.int .i64 eS) ∧ w'.cell? ⟨W2.heap.size, 1, none⟩ = some (.int .u64 eP)) (first | exact ⟨p0, p1⟩ | exact hSk _ _ m6 (by assumption) | exact hSk _ _ m7 (by assumption)) (first
              | (go_at_call 32; refine (hSl _).mono ?_; rintro e w6 ⟨rfl, m6⟩)
              | (go_at_call 31; refine (hWi _).mono ?_; rintro e w7 ⟨rfl, m7⟩))
            all_goals refine onlyN_out ?_
            go_wp2
            go_ret3
            exact ⟨by rw [hV.out]; rfl, (m5.drew.trans m6).trans m7⟩
end Go.Proofs.YtfkmfllhlhefdaaDoor
