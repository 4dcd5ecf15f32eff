/- Package wire's Decode. -/
import Derived.Test.YtklpopmjpgdjnaaGreatDoorQGg
import Derived.Test.YtklpopmjpgdjnaaGreatDoorQStatDec
set_option linter.unusedVariables false
set_option linter.unusedSimpArgs false
namespace Go.Proofs.YtklpopmjpgdjnaaGreatDoor
open Go.RowKit

theorem results_row {fn : Func} {a t : Tmp} {ty : TypeId} (h : fn.results = #[.cell a ty, .tmp t]) (tmps : Array Value) (P : Program) (w : World) (b : Nat) (cs : List Value) (d : TypeDesc) (ha : tmps.getD a undef = .pointer (some ⟨b, 0, none⟩))
    (hc : w.rangeAt b 0 cs) (hu : P.underlying ty = some d) (hd : d.isRow = true) (hi : (P.info? ty).map (·.size) = some cs.length) :
    (results fn tmps).run P w = .ok (.tuple #[.agg cs.toArray, tmps.getD t undef]) w := by
  have hl := run_loadVar_mid w b 0 ty cs d hc hu hd hi
  have ha' : tmps[a]?.getD undef = .pointer (some ⟨b, 0, none⟩) := by simpa using ha
  simp [results, h, ha', asAddr, hl]
theorem dec_zero (w V : World) (s : ByteArray) (e : Int) (hc : V.rangeAt w.heap.size 0 (Msg.zero.cells (.slice none 0 0) (.slice none 0 0))) (hv : decM s = (Msg.zero, e)) (hm : Mod (fun _ => False) w V) (a : Act) (hd : a.defers = [])
    (h2 : a.tmps.getD 2 undef = .pointer (some ⟨w.heap.size, 0, none⟩)) (h3 : a.tmps.getD 3 undef = .int .i64 e) :
    bodyPost Tryz.prog Tryz.f9 (fun e w' => ∃ vn vq, e = .returned (.tuple #[.agg ((decM s).1.cells vn vq).toArray, .int .i64 (decM s).2]) ∧
      SlAt w' (w.heap.size ≤ ·) vn ((decM s).1.names.map .string) ∧ RecsAt Qd.cells 3 w' (w.heap.size ≤ ·) vq (decM s).1.qids ∧ Mod (fun _ => False) w w') .ret a V := by
  refine bodyPost_ret (results_row rfl a.tmps _ V w.heap.size _ _ h2 hc Tryz.underlying33 rfl (by kernel_rfl)) hd ⟨.slice none 0 0, .slice none 0 0, ?_, ?_, ?_, hm⟩
  · rw [h3, hv]
  · rw [hv]; exact .inl ⟨rfl, none, 0, rfl⟩
  · rw [hv]; exact .inl ⟨rfl, none, 0, rfl⟩
theorem dec_fin (w V : World) (s : ByteArray) (M : Msg) (vn vq : Value) (e : Int) (hc : V.rangeAt w.heap.size 0 (M.cells vn vq)) (hv : decM s = (M, e)) (hn : SlAt V (w.heap.size ≤ ·) vn (M.names.map .string)) (hq : RecsAt Qd.cells 3 V (w.heap.size ≤ ·) vq M.qids) (hm : Mod (fun _ => False) w V) (a : Act) (hd : a.defers = [])
    (h2 : a.tmps.getD 2 undef = .pointer (some ⟨w.heap.size, 0, none⟩)) (h3 : a.tmps.getD 3 undef = .int .i64 e) :
    bodyPost Tryz.prog Tryz.f9 (fun e w' => ∃ vn vq, e = .returned (.tuple #[.agg ((decM s).1.cells vn vq).toArray, .int .i64 (decM s).2]) ∧
      SlAt w' (w.heap.size ≤ ·) vn ((decM s).1.names.map .string) ∧ RecsAt Qd.cells 3 w' (w.heap.size ≤ ·) vq (decM s).1.qids ∧ Mod (fun _ => False) w w') .ret a V := by
  refine bodyPost_ret (results_row rfl a.tmps _ V w.heap.size _ _ h2 hc Tryz.underlying33 rfl (by kernel_rfl)) hd ⟨vn, vq, ?_, ?_, ?_, hm⟩
  · rw [h3, hv]
  · rw [hv]; exact hn
  · rw [hv]; exact hq
set_option maxHeartbeats 4000000 in
set_option maxRecDepth 100000 in
theorem dec24_any (s : ByteArray) (w : World) (hs : s.size ≤ maxLen) (hT : Tabs w) :
    Calls Tryz.prog 9 #[.string s] w fun e w' => ∃ vn vq, e = .returned (.tuple #[.agg ((decM s).1.cells vn vq).toArray, .int .i64 (decM s).2]) ∧
      SlAt w' (w.heap.size ≤ ·) vn ((decM s).1.names.map .string) ∧ RecsAt Qd.cells 3 w' (w.heap.size ≤ ·) vq (decM s).1.qids ∧ Mod (fun _ => False) w w' := by
  obtain ⟨W, hW⟩ : ∃ W, w.alloc (msgO Msg.zero (.slice none 0 0) (.slice none 0 0)) = W := ⟨_, rfl⟩
  have hz : W.heap[w.heap.size]? = some (msgO Msg.zero (.slice none 0 0) (.slice none 0 0)) := by subst hW; exact new_at _ _
  have m0 : Mod (fun _ => False) w W := by subst hW; exact (Mod.refl _ w).alloc _
  have hN := fun U => new_any s U
  have HD : Hid (decM s = decH (hd3 s) s) := rfl
  go_enter Tryz.func9, Tryz.ntmps9
  go_wp2_with fail
  rw [show w.alloc (.cells #[.int .u8 0, .int .u16 0, .int .u32 0, .string { data := #[] }, .int .u32 0, .int .u32 0, .int .u32 0, .int .u16 0, .string { data := #[] }, .string { data := #[] }, .string { data := #[] }, .string { data := #[] }, .slice none 0 0, .int .u8 0, .int .u32 0, .int .u64 0, .slice none 0 0, .int .u8 0, .int .u32 0, .int .u32 0, .int .u64 0, .int .u32 0, .string { data := #[] }, .int .u16 0, .int .u32 0, .int .u8 0, .int .u32 0, .int .u64 0, .int .u32 0, .int .u32 0, .int .u32 0, .int .u64 0, .string { data := #[] }, .string { data := #[] }, .string { data := #[] }, .string { data := #[] }] 33) = W from hW]
  refine (hN _).mono ?_
  rintro e w1 ⟨rfl, hr, m1⟩
  obtain ⟨b, hb⟩ : ∃ b, W.heap.size = b := ⟨_, rfl⟩
  rw [hb] at hr ⊢
  have HZ := Lib.hid ((m1.block _ (lt_of hz) (fun x => x)).trans hz)
  have hbz : w.heap.size < b := hb ▸ lt_of hz
  have M1 := Lib.hid (m0.trans m1)
  have hU := U32_any b ⟨s, 0, 0⟩ w1 hr hs (Nat.zero_le _)
  clear hN hW hz m0 m1
  go_wp2_with fail
  refine hU.mono ?_
  rintro e w2 ⟨rfl, h2, m2⟩
  have hs1 := Rd.num_s ⟨s, 0, 0⟩ 4
  have ha1 := Rd.num_at ⟨s, 0, 0⟩ 4 (Nat.zero_le _)
  have hn1 := Rd.num_lt ⟨s, 0, 0⟩ 4
  have hH : Hid (hd3 s = ((Rd.num ⟨s, 0, 0⟩ 4).1, ((Rd.num ⟨s, 0, 0⟩ 4).2.num 1).1, (((Rd.num ⟨s, 0, 0⟩ 4).2.num 1).2.num 2).1, (((Rd.num ⟨s, 0, 0⟩ 4).2.num 1).2.num 2).2)) := rfl
  generalize Rd.num ⟨s, 0, 0⟩ 4 = R1 at *
  obtain ⟨n, r1⟩ := R1
  simp only at hs1 ha1 hn1 h2
  have hU8 := U8_any b r1 w2 h2 (by rw [hs1]; exact hs) ha1
  go_wp2_with fail
  refine hU8.mono ?_
  rintro e w3 ⟨rfl, h3, m3⟩
  have hs2 := (Rd.num_s r1 1).trans hs1
  have ha2 := Rd.num_at r1 1 ha1
  have hn2 := Rd.num_lt r1 1
  generalize r1.num 1 = R2 at *
  obtain ⟨t, r2⟩ := R2
  simp only at hs2 ha2 hn2 h3
  have hU16 := U16_any b r2 w3 h3 (by rw [hs2]; exact hs) ha2
  go_wp2_with fail
  refine hU16.mono ?_
  rintro e w4 ⟨rfl, h4, m4⟩
  have hs3 := (Rd.num_s r2 2).trans hs2
  have ha3 := Rd.num_at r2 2 ha2
  have hn3 := Rd.num_lt r2 2
  generalize r2.num 2 = R3 at *
  obtain ⟨g, r3⟩ := R3
  simp only at hs3 ha3 hn3 h4
  have M4 : Hid (Mod (fun _ => False) w w4) := ((M1.out.trans' m2 fun j hj e => by omega).trans' m3 fun j hj e => by omega).trans' m4 fun j hj e => by omega
  have HZ4 := Lib.hid ((m4.block _ (Nat.lt_of_lt_of_le (lt_of HZ.out) (Nat.le_trans m2.size m3.size)) (by omega)).trans ((m3.block _ (Nat.lt_of_lt_of_le (lt_of HZ.out) m2.size) (by omega)).trans ((m2.block _ (lt_of HZ.out) (by omega)).trans HZ.out)))
  have HR4 := Lib.hid h4
  have hF := fields_any w4
  clear hU hU8 hU16 m2 m3 m4 h2 h3 hr HZ M1
  go_wp2_with fail
  refine hF.mono ?_
  rintro e w5 ⟨mb, rfl, hFS⟩
  obtain ⟨v, hlk, hsl, va, vl, vc, rfl⟩ := hFS.look t (by omega)
  have HFS := Lib.hid hFS
  clear hF
  go_wp2_with fail
  have hR5 := (hFS.m.block _ (lt_of h4) (fun x => x)).trans h4
  have HZ5 := Lib.hid ((hFS.m.block _ (lt_of HZ4.out) (fun x => x)).trans HZ4.out)
  have M5 := Lib.hid (M4.out.trans hFS.m)
  have hft := fault_any b r3 w5 hR5
  have HR5 := Lib.hid hR5
  clear hR5 h4 HR4 HZ4 M4 hFS hlk
  refine hft.mono ?_
  rintro e w6 ⟨rfl, rfl⟩
  clear hft
  have HD1 : Hid (decM s = decH (n, t, g, r3) s) := by have h := HD.out; rw [hH.out] at h; exact h
  clear HD hH
  by_cases h1 : r3.f ≠ 0
  · have t1 : (r3.f != 0) = true := by simpa using h1
    have hv : Hid (decM s = (Msg.zero, 50)) := by rw [HD1.out]; exact if_pos h1
    go_upto_region 5 with (fail)
    refine wp_region_lit ?_
    refine wpList_plain rfl fun K hK => ?_
    go_simp
    refine hK _ _ ?_
    clear hK K
    refine wpl_store_row rfl 33 (.tmp 2) (.tmp 30) rfl rfl w.heap.size (Msg.zero.cells (.slice none 0 0) (.slice none 0 0)) rfl rfl 33 _ HZ5.out rfl (msg_one _ _ _ rfl rfl) (by kernel_rfl) ?_
    intro V hv2 mv
    refine wpList_plain rfl fun K hK => ?_
    go_simp
    refine hK _ _ ?_
    clear hK K
    refine wpList_nil ?_
    have hrgV : V.rangeAt w.heap.size 0 (Msg.zero.cells (.slice none 0 0) (.slice none 0 0)) := fun j u hu => by rw [Nat.zero_add, cell_of hv2, List.getElem?_toArray]; exact hu
    have MV : Hid (Mod (fun _ => False) w V) := M5.out.trans' mv fun j hj e => by omega
    go_wp2
    exact dec_zero w V s 50 hrgV hv.out MV.out _ rfl rfl rfl
  · have t1 : (r3.f != 0) = false := by simp at h1 ⊢; exact h1
    have HD2 := Lib.hid (HD1.out.trans (if_neg h1))
    clear HD1
    have hw : IntKind.i64.wrap (n : Int) = n := by rw [IntKind.wrap_i64]; omega
    by_cases h2 : n ≠ s.size
    · have t2 : ((n : Int) != (s.size : Int)) = true := by simp; omega
      have hv : Hid (decM s = (Msg.zero, 51)) := by rw [HD2.out]; exact if_pos h2
      go_upto_region 7 with (fail)
      refine wp_region_lit ?_
      refine wpList_plain rfl fun K hK => ?_
      go_simp
      refine hK _ _ ?_
      clear hK K
      refine wpl_store_row rfl 33 (.tmp 2) (.tmp 37) rfl rfl w.heap.size (Msg.zero.cells (.slice none 0 0) (.slice none 0 0)) rfl rfl 33 _ HZ5.out rfl (msg_one _ _ _ rfl rfl) (by kernel_rfl) ?_
      intro V hv2 mv
      refine wpList_plain rfl fun K hK => ?_
      go_simp
      refine hK _ _ ?_
      clear hK K
      refine wpList_nil ?_
      have hrgV : V.rangeAt w.heap.size 0 (Msg.zero.cells (.slice none 0 0) (.slice none 0 0)) := fun j u hu => by rw [Nat.zero_add, cell_of hv2, List.getElem?_toArray]; exact hu
      have MV : Hid (Mod (fun _ => False) w V) := M5.out.trans' mv fun j hj e => by omega
      go_wp2
      exact dec_zero w V s 51 hrgV hv.out MV.out _ rfl rfl rfl
    · have t2 : ((n : Int) != (s.size : Int)) = false := by simp at h2 ⊢; omega
      have HD3 := Lib.hid (HD2.out.trans (if_neg h2))
      clear HD2
      by_cases h3 : 8192 < s.size
      · have t3 : decide (8192 < (s.size : Int)) = true := by simp; omega
        have hv : Hid (decM s = (Msg.zero, 4)) := by rw [HD3.out]; exact if_pos h3
        go_upto_region 9 with (fail)
        refine wp_region_lit ?_
        refine wpList_plain rfl fun K hK => ?_
        go_simp
        refine hK _ _ ?_
        clear hK K
        refine wpl_store_row rfl 33 (.tmp 2) (.tmp 42) rfl rfl w.heap.size (Msg.zero.cells (.slice none 0 0) (.slice none 0 0)) rfl rfl 33 _ HZ5.out rfl (msg_one _ _ _ rfl rfl) (by kernel_rfl) ?_
        intro V hv2 mv
        refine wpList_plain rfl fun K hK => ?_
        go_simp
        refine hK _ _ ?_
        clear hK K
        refine wpList_nil ?_
        have hrgV : V.rangeAt w.heap.size 0 (Msg.zero.cells (.slice none 0 0) (.slice none 0 0)) := fun j u hu => by rw [Nat.zero_add, cell_of hv2, List.getElem?_toArray]; exact hu
        have MV : Hid (Mod (fun _ => False) w V) := M5.out.trans' mv fun j hj e => by omega
        go_wp2
        exact dec_zero w V s 4 hrgV hv.out MV.out _ rfl rfl rfl
      · have t3 : decide (8192 < (s.size : Int)) = false := by simp; omega
        have HD4 := Lib.hid (HD3.out.trans (if_neg h3))
        clear HD3
        simp only at HD4
        cases hfo : fieldsOf t with
        | none =>
          have hv : Hid (decM s = (Msg.zero, 240)) := by show _ = _; rw [HD4.out, hfo]
          go_upto_region 11 with (fail)
          refine wp_region_lit ?_
          refine wpList_plain rfl fun K hK => ?_
          go_simp
          refine hK _ _ ?_
          clear hK K
          refine wpl_store_row rfl 33 (.tmp 2) (.tmp 46) rfl rfl w.heap.size (Msg.zero.cells (.slice none 0 0) (.slice none 0 0)) rfl rfl 33 _ HZ5.out rfl (msg_one _ _ _ rfl rfl) (by kernel_rfl) ?_
          intro V hv2 mv
          refine wpList_plain rfl fun K hK => ?_
          go_simp
          refine hK _ _ ?_
          clear hK K
          refine wpList_nil ?_
          have hrgV : V.rangeAt w.heap.size 0 (Msg.zero.cells (.slice none 0 0) (.slice none 0 0)) := fun j u hu => by rw [Nat.zero_add, cell_of hv2, List.getElem?_toArray]; exact hu
          have MV : Hid (Mod (fun _ => False) w V) := M5.out.trans' mv fun j hj e => by omega
          go_wp2
          exact dec_zero w V s 240 hrgV hv.out MV.out _ rfl rfl rfl
        | some l =>
          have HDl : Hid (decM s = decE (decR t g (r3.s.extract r3.at_ r3.s.size) l)) := by show _ = _; rw [HD4.out, hfo]
          clear HD4
          rw [hfo] at hsl
          have hnd := fieldsOf_nodup hfo
          have hll := fieldsOf_len hfo
          go_upto_region 12 with (fail)
          obtain ⟨M0, hM0⟩ : ∃ M0 : Msg, ({ Msg.zero with ty := t, tag := g } : Msg) = M0 := ⟨_, rfl⟩
          have hMc : M0.cells (.slice none 0 0) (.slice none 0 0) = (.int .u8 t :: .int .u16 g :: (Msg.zero.cells (.slice none 0 0) (.slice none 0 0)).drop 2) := by rw [← hM0]; rfl
          have hMn : M0.names = [] := by rw [← hM0]; rfl
          have hMq : M0.qids = [] := by rw [← hM0]; rfl
          have hsm : (decR t g (r3.s.extract r3.at_ r3.s.size) l).m.Small := decR_small t g _ l (by rw [ByteArray.size_extract, hs3]; omega)
          have hDR : decR t g (r3.s.extract r3.at_ r3.s.size) l = l.foldl Fld.rd ⟨M0, ⟨r3.s.extract r3.at_ r3.s.size, 0, 0⟩, false, false⟩ := by rw [← hM0]; rfl
          rw [hDR] at HDl hsm
          refine wp_region_lit ?_
          refine wpList_plain rfl fun K hK => ?_
          go_simp
          refine hK _ _ ?_
          clear hK K
          refine wpList_plain rfl fun K hK => ?_
          go_simp
          refine hK _ _ ?_
          clear hK K
          refine wpList_plain rfl fun K hK => ?_
          go_simp
          refine hK _ _ ?_
          clear hK K
          refine wpList_plain rfl fun K hK => ?_
          go_simp
          refine hK _ _ ?_
          clear hK K
          refine wpl_store_row rfl 33 (.tmp 10) (.tmp 49) rfl rfl w5.heap.size (M0.cells (.slice none 0 0) (.slice none 0 0)) rfl (by rw [hMc]; rfl) 33 _ (new_at w5 _) rfl (msg_one M0 _ _ rfl rfl) (by kernel_rfl) ?_
          intro V hv2 mv
          refine wpList_nil ?_
          obtain ⟨bm, hbm⟩ : ∃ bm, w5.heap.size = bm := ⟨_, rfl⟩
          have M6 : Hid (Mod (fun _ => False) w5 V) := ((Mod.refl (fun _ => False) w5).alloc _).trans' mv fun k hk e => by omega
          have HB6 : Hid (V.heap[bm]? = some (msgO M0 (.slice none 0 0) (.slice none 0 0))) := by rw [← hbm]; exact hv2
          have HZ6 := Lib.hid ((M6.out.block _ (lt_of HZ5.out) (fun x => x)).trans HZ5.out)
          have hR6 := (M6.out.block _ (lt_of HR5.out) (fun x => x)).trans HR5.out
          have HSl : Hid (SlAt V (fun g => g ≠ bm) (.slice va vl vc) (fnV l)) := (hsl.lt'.mod M6.out fun _ _ _ x => x).imp fun g hg e => by have := hg.2; omega
          have hb5 : b < bm := by rw [← hbm]; exact lt_of HR5.out
          have hw5 : w.heap.size < bm := by rw [← hbm]; exact lt_of HZ5.out
          have M7 := Lib.hid (M5.out.trans M6.out)
          clear hv2 mv HZ5 HR5 M5 M6 hsl hMc hM0 HFS
          have hRe := rest_any b r3 V hR6 (by rw [hs3]; exact hs) ha3
          have hrs : (r3.s.extract r3.at_ r3.s.size).size ≤ maxLen := by rw [ByteArray.size_extract, hs3]; omega
          have HR6 := Lib.hid hR6
          rw [hbm]
          clear hR6
          generalize r3.s.extract r3.at_ r3.s.size = rst at *
          go_wp2_with fail
          refine hRe.mono ?_
          rintro e w6 ⟨rfl, n6, rfl⟩
          clear hRe
          have hDn := done_r rst bm M0 (.slice va vl vc) l (V.drewN n6) HSl.out (by omega) hnd HB6.out hMn hMq hrs
          generalize l.foldl Fld.rd ⟨M0, ⟨rst, 0, 0⟩, false, false⟩ = R at *
          clear hDR
          go_wp2_with fail
          refine hDn.mono ?_
          rintro e w7 ⟨bp, br, B, fn, fq, rfl, hRA, m7, hB⟩
          clear hDn HB6 HSl hMn hMq
          obtain ⟨vn, vq, hRM⟩ := hRA.msg
          obtain ⟨_, p3, p4, _, p5, _⟩ := hRA.pen.cells
          have hEn := end_any br R.q w7 hRA.rd hRA.ok.1 hRA.ok.2
          have HZ7 : Hid (w7.heap[w.heap.size]? = some (msgO Msg.zero (.slice none 0 0) (.slice none 0 0))) := (m7.block _ (lt_of HZ6.out) (by omega)).trans HZ6.out
          have M8 : Hid (Mod (fun _ => False) w w7) := Mod.trans' (M7.out.drewN n6) m7 fun j hj e => by omega
          have HRM := Lib.hid hRM
          have hwB : w.heap.size < B := by have := hRA.lt.2; omega
          clear hRA m7 hB HZ6 M7 hRM HR6
          go_wp2_with fail
          refine hEn.mono ?_
          rintro e w8 ⟨rfl, n8, rfl⟩
          clear hEn
          have p3 : (w7.drewN n8).cell? ⟨bp, 3, none⟩ = some (.pointer (some ⟨br, 0, none⟩)) := p3
          have p4 : (w7.drewN n8).cell? ⟨bp, 4, none⟩ = some (.bool R.long) := p4
          have p5 : (w7.drewN n8).cell? ⟨bp, 5, none⟩ = some (.bool R.wrong) := p5
          have HZ5 : Hid ((w7.drewN n8).heap[w.heap.size]? = some (msgO Msg.zero (.slice none 0 0) (.slice none 0 0))) := HZ7.out
          have M5 : Hid (Mod (fun _ => False) w (w7.drewN n8)) := M8.out.drewN n8
          have hRM : RMsg (w7.drewN n8) B bm R.m fn fq vn vq := ⟨HRM.out.obj, HRM.out.names, HRM.out.qids, HRM.out.n0, HRM.out.q0⟩
          have HRM := Lib.hid hRM
          generalize w7.drewN n8 = w8 at *
          clear HZ7 M8 hRM
          by_cases he : R.q.end_ ≠ 0
          · have t4 : (R.q.end_ != 0) = true := by simpa using he
            have hv : Hid (decM s = (Msg.zero, 51)) := HDl.out.trans (if_pos (.inl he))
            go_upto_region 15 with (fail)
            refine wp_region_lit ?_
            refine wpList_plain rfl fun K hK => ?_
            go_simp
            refine hK _ _ ?_
            clear hK K
            refine wpl_store_row rfl 33 (.tmp 2) (.tmp 67) rfl rfl w.heap.size (Msg.zero.cells (.slice none 0 0) (.slice none 0 0)) rfl rfl 33 _ HZ5.out rfl (msg_one _ _ _ rfl rfl) (by kernel_rfl) ?_
            intro V hv2 mv
            refine wpList_plain rfl fun K hK => ?_
            go_simp
            refine hK _ _ ?_
            clear hK K
            refine wpList_nil ?_
            have hrgV : V.rangeAt w.heap.size 0 (Msg.zero.cells (.slice none 0 0) (.slice none 0 0)) := fun j u hu => by rw [Nat.zero_add, cell_of hv2, List.getElem?_toArray]; exact hu
            have MV : Hid (Mod (fun _ => False) w V) := M5.out.trans' mv fun j hj e => by omega
            go_wp2
            exact dec_zero w V s 51 hrgV hv.out MV.out _ rfl rfl rfl
          have t4 : (R.q.end_ != 0) = false := by simp at he ⊢; exact he
          cases hwr : R.wrong with
          | true =>
            rw [hwr] at p5
            have hv : Hid (decM s = (Msg.zero, 51)) := HDl.out.trans (if_pos (.inr hwr))
            go_upto_region 15 with (fail)
            refine wp_region_lit ?_
            refine wpList_plain rfl fun K hK => ?_
            go_simp
            refine hK _ _ ?_
            clear hK K
            refine wpl_store_row rfl 33 (.tmp 2) (.tmp 67) rfl rfl w.heap.size (Msg.zero.cells (.slice none 0 0) (.slice none 0 0)) rfl rfl 33 _ HZ5.out rfl (msg_one _ _ _ rfl rfl) (by kernel_rfl) ?_
            intro V hv2 mv
            refine wpList_plain rfl fun K hK => ?_
            go_simp
            refine hK _ _ ?_
            clear hK K
            refine wpList_nil ?_
            have hrgV : V.rangeAt w.heap.size 0 (Msg.zero.cells (.slice none 0 0) (.slice none 0 0)) := fun j u hu => by rw [Nat.zero_add, cell_of hv2, List.getElem?_toArray]; exact hu
            have MV : Hid (Mod (fun _ => False) w V) := M5.out.trans' mv fun j hj e => by omega
            go_wp2
            exact dec_zero w V s 51 hrgV hv.out MV.out _ rfl rfl rfl
          | false =>
            rw [hwr] at p5
            have HD5 : Hid (decM s = if plainM R.m = false then (Msg.zero, 241) else if R.long = true then (Msg.zero, 4) else (R.m, 0)) := HDl.out.trans (if_neg (fun h => h.elim he (fun h => by rw [hwr] at h; cases h)))
            clear HDl
            have hrg : w8.rangeAt bm 0 (R.m.cells vn vq) := fun j u hu => by rw [Nat.zero_add, cell_of HRM.out.obj, List.getElem?_toArray]; exact hu
            have hPl := plain_any R.m vn vq (B ≤ ·) w8 hsm (SlAt.of_owns HRM.out.names) (hT.mod M5.out)
            have hsz := msg_len R.m vn vq
            go_upto_region 16 with (fail)
            refine wp_region_lit ?_
            refine wpList_load_mid rfl 33 (.tmp 10) rfl bm 0 rfl (R.m.cells vn vq) _ hrg Tryz.underlying33 rfl (by kernel_rfl) ?_
            refine wpList_plain rfl fun K hK => ?_
            go_simp
            refine hPl.mono ?_
            rintro e w9 ⟨rfl, m9⟩
            refine hK _ _ ?_
            clear hK K hPl hrg
            have p4 := keepR m9 p4
            have HZ9 : Hid (w9.heap[w.heap.size]? = some (msgO Msg.zero (.slice none 0 0) (.slice none 0 0))) := (m9.block _ (lt_of HZ5.out) (fun x => x)).trans HZ5.out
            have M9 := Lib.hid (M5.out.trans m9)
            have HN9 : Hid (SlAt w9 (B ≤ ·) vn (R.m.names.map .string)) := (SlAt.of_owns HRM.out.names).mod m9 fun _ _ _ x => x
            have HQ9 : Hid (RecsAt Qd.cells 3 w9 (B ≤ ·) vq R.m.qids) := RecsAt.mod (OwnA.recs (cs := Qd.cells) (sz := 3) (by decide) (fun _ => rfl) (OwnA.of_owns HRM.out.qids)) m9 fun _ _ _ x => x
            have hvn : vn.oneCell' = true := by obtain ⟨a, c, rfl, _⟩ := HN9.out.form; rfl
            have hvq : vq.oneCell' = true := by obtain ⟨a, c, rfl, _⟩ := HQ9.out.form; rfl
            have hob := (m9.block _ (lt_of HRM.out.obj) (fun x => x)).trans HRM.out.obj
            have hrg9 : w9.rangeAt bm 0 (R.m.cells vn vq) := fun j u hu => by rw [Nat.zero_add, cell_of hob, List.getElem?_toArray]; exact hu
            clear HZ5 M5 m9 p5 p3 HRM hob
            have HZ5 := HZ9
            have M5 := M9
            clear HZ9 M9
            cases hp : plainM R.m with
            | false =>
              have hv : Hid (decM s = (Msg.zero, 241)) := HD5.out.trans (if_pos hp)
              go_upto_region 17 with (fail)
              refine wp_region_lit ?_
              refine wpList_plain rfl fun K hK => ?_
              go_simp
              refine hK _ _ ?_
              clear hK K
              refine wpl_store_row rfl 33 (.tmp 2) (.tmp 72) rfl rfl w.heap.size (Msg.zero.cells (.slice none 0 0) (.slice none 0 0)) rfl rfl 33 _ HZ5.out rfl (msg_one _ _ _ rfl rfl) (by kernel_rfl) ?_
              intro V hv2 mv
              refine wpList_plain rfl fun K hK => ?_
              go_simp
              refine hK _ _ ?_
              clear hK K
              refine wpList_nil ?_
              have hrgV : V.rangeAt w.heap.size 0 (Msg.zero.cells (.slice none 0 0) (.slice none 0 0)) := fun j u hu => by rw [Nat.zero_add, cell_of hv2, List.getElem?_toArray]; exact hu
              have MV : Hid (Mod (fun _ => False) w V) := M5.out.trans' mv fun j hj e => by omega
              go_wp2
              exact dec_zero w V s 241 hrgV hv.out MV.out _ rfl rfl rfl
            | true =>
              have HD6 := Lib.hid (HD5.out.trans (if_neg (by rw [hp]; simp)))
              clear HD5
              cases hlg : R.long with
              | true =>
                rw [hlg] at p4
                have hv : Hid (decM s = (Msg.zero, 4)) := HD6.out.trans (if_pos hlg)
                go_upto_region 19 with (fail)
                refine wp_region_lit ?_
                refine wpList_plain rfl fun K hK => ?_
                go_simp
                refine hK _ _ ?_
                clear hK K
                refine wpl_store_row rfl 33 (.tmp 2) (.tmp 78) rfl rfl w.heap.size (Msg.zero.cells (.slice none 0 0) (.slice none 0 0)) rfl rfl 33 _ HZ5.out rfl (msg_one _ _ _ rfl rfl) (by kernel_rfl) ?_
                intro V hv2 mv
                refine wpList_plain rfl fun K hK => ?_
                go_simp
                refine hK _ _ ?_
                clear hK K
                refine wpList_nil ?_
                have hrgV : V.rangeAt w.heap.size 0 (Msg.zero.cells (.slice none 0 0) (.slice none 0 0)) := fun j u hu => by rw [Nat.zero_add, cell_of hv2, List.getElem?_toArray]; exact hu
                have MV : Hid (Mod (fun _ => False) w V) := M5.out.trans' mv fun j hj e => by omega
                go_wp2
                exact dec_zero w V s 4 hrgV hv.out MV.out _ rfl rfl rfl
              | false =>
                rw [hlg] at p4
                have hv : Hid (decM s = (R.m, 0)) := HD6.out.trans (if_neg (by rw [hlg]; simp))
                clear HD6
                go_upto_region 20 with (fail)
                refine wp_region_lit ?_
                refine wpList_load_mid rfl 33 (.tmp 10) rfl bm 0 rfl (R.m.cells vn vq) _ hrg9 Tryz.underlying33 rfl (by kernel_rfl) ?_
                refine wpl_store_row rfl 33 (.tmp 2) (.tmp 79) rfl rfl w.heap.size (R.m.cells vn vq) rfl rfl 33 _ HZ5.out rfl (msg_one _ _ _ hvn hvq) (by kernel_rfl) ?_
                intro V' hv2 mv
                refine wpList_plain rfl fun K hK => ?_
                go_simp
                refine hK _ _ ?_
                clear hK K
                refine wpList_nil ?_
                have hrgV : V'.rangeAt w.heap.size 0 (R.m.cells vn vq) := fun j u hu => by rw [Nat.zero_add, cell_of hv2, List.getElem?_toArray]; exact hu
                have MV : Hid (Mod (fun _ => False) w V') := M5.out.trans' mv fun j hj e => by omega
                have HNV : Hid (SlAt V' (w.heap.size ≤ ·) vn (R.m.names.map .string)) := (HN9.out.mod mv fun g hg _ e => by omega).imp fun g hg => Nat.le_of_lt (Nat.lt_of_lt_of_le hwB hg)
                have HQV : Hid (RecsAt Qd.cells 3 V' (w.heap.size ≤ ·) vq R.m.qids) := (HQ9.out.mod mv fun g hg _ e => by omega).imp fun g hg => Nat.le_of_lt (Nat.lt_of_lt_of_le hwB hg)
                go_wp2
                exact dec_fin w V' s R.m vn vq 0 hrgV hv.out HNV.out HQV.out MV.out _ rfl rfl rfl
end Go.Proofs.YtklpopmjpgdjnaaGreatDoor
