/- The document's Decode: what package wire's gives. -/
import Derived.Test.YtklpopmjpgdjnaaGreatDoorQRdRead
import Derived.Test.YtklpopmjpgdjnaaGreatDoorQRdFl
import Derived.Test.YtklpopmjpgdjnaaGreatDoorQGo
import Derived.Test.YtklpopmjpgdjnaaGreatDoorQDecode
set_option linter.unusedVariables false
set_option linter.unusedSimpArgs false
namespace Go.Proofs.YtklpopmjpgdjnaaGreatDoor
open Go.RowKit

theorem rdec_zero (w V : World) (s : ByteArray) (e : Int) (hc : V.rangeAt w.heap.size 0 (Msg.zero.cells (.slice none 0 0) (.slice none 0 0))) (hv : decM s = (Msg.zero, e)) (hm : Mod (fun _ => False) w V) (a : Act) (hd : a.defers = [])
    (h2 : a.tmps.getD 2 undef = .pointer (some ⟨w.heap.size, 0, none⟩)) (h3 : a.tmps.getD 3 undef = .int .i64 e) :
    bodyPost Tryz.prog Tryz.f10 (fun e w' => ∃ vn vq, e = .returned (.tuple #[.agg ((decM s).1.cells vn vq).toArray, .int .i64 (decM s).2]) ∧
      SlAt w' (w.heap.size ≤ ·) vn ((decM s).1.names.map .string) ∧ RecsAt Qd.cells 3 w' (w.heap.size ≤ ·) vq (decM s).1.qids ∧ Mod (fun _ => False) w w') .ret a V := by
  refine bodyPost_ret (results_row rfl a.tmps _ V w.heap.size _ _ h2 hc Tryz.underlying33 rfl (by kernel_rfl)) hd ⟨.slice none 0 0, .slice none 0 0, ?_, ?_, ?_, hm⟩
  · rw [h3, hv]
  · rw [hv]; exact .inl ⟨rfl, none, 0, rfl⟩
  · rw [hv]; exact .inl ⟨rfl, none, 0, rfl⟩
theorem rdec_fin (w V : World) (s : ByteArray) (M : Msg) (vn vq : Value) (e : Int) (hc : V.rangeAt w.heap.size 0 (M.cells vn vq)) (hv : decM s = (M, e)) (hn : SlAt V (w.heap.size ≤ ·) vn (M.names.map .string)) (hq : RecsAt Qd.cells 3 V (w.heap.size ≤ ·) vq M.qids) (hm : Mod (fun _ => False) w V) (a : Act) (hd : a.defers = [])
    (h2 : a.tmps.getD 2 undef = .pointer (some ⟨w.heap.size, 0, none⟩)) (h3 : a.tmps.getD 3 undef = .int .i64 e) :
    bodyPost Tryz.prog Tryz.f10 (fun e w' => ∃ vn vq, e = .returned (.tuple #[.agg ((decM s).1.cells vn vq).toArray, .int .i64 (decM s).2]) ∧
      SlAt w' (w.heap.size ≤ ·) vn ((decM s).1.names.map .string) ∧ RecsAt Qd.cells 3 w' (w.heap.size ≤ ·) vq (decM s).1.qids ∧ Mod (fun _ => False) w w') .ret a V := by
  refine bodyPost_ret (results_row rfl a.tmps _ V w.heap.size _ _ h2 hc Tryz.underlying33 rfl (by kernel_rfl)) hd ⟨vn, vq, ?_, ?_, ?_, hm⟩
  · rw [h3, hv]
  · rw [hv]; exact hn
  · rw [hv]; exact hq
theorem isEmpty_sz (s : ByteArray) : s.toList.isEmpty = decide (s.size = 0) := by
  rw [ByteArray.toList_eq]
  have hs : s.data.toList.length = s.size := by rw [Array.length_toList]; rfl
  cases hl : s.data.toList with
  | nil => rw [hl] at hs; rw [decide_eq_true (by simpa using hs.symm)]; rfl
  | cons x l => rw [hl] at hs; simp only [List.length_cons] at hs; rw [decide_eq_false (by omega)]; rfl
set_option maxHeartbeats 4000000 in
set_option maxRecDepth 100000 in
theorem rdec24_any (s : ByteArray) (w : World) (hs : s.size ≤ 65536) (hT : Tabs w) :
    Calls Tryz.prog 10 #[.string s] w fun e w' => ∃ vn vq, e = .returned (.tuple #[.agg ((decM s).1.cells vn vq).toArray, .int .i64 (decM s).2]) ∧
      SlAt w' (w.heap.size ≤ ·) vn ((decM s).1.names.map .string) ∧ RecsAt Qd.cells 3 w' (w.heap.size ≤ ·) vq (decM s).1.qids ∧ Mod (fun _ => False) w w' := by
  obtain ⟨W, hW⟩ : ∃ W, w.alloc (msgO Msg.zero (.slice none 0 0) (.slice none 0 0)) = W := ⟨_, rfl⟩
  have hz : W.heap[w.heap.size]? = some (msgO Msg.zero (.slice none 0 0) (.slice none 0 0)) := by subst hW; exact new_at _ _
  have m0 : Mod (fun _ => False) w W := by subst hW; exact (Mod.refl _ w).alloc _
  have HZ5 := Lib.hid hz
  have M5 := Lib.hid m0
  have hwW := lt_of hz
  clear hz m0
  have HD : Hid (decM s = docM s) := (doc_is s).symm
  have hw1 : IntKind.u64.wrap (s.size : Int) = s.size := by rw [IntKind.wrap_u64]; omega
  by_cases h7 : s.size < 7
  · have t1 : decide ((s.size : Int) < 7) = true := by simp; omega
    have hv : Hid (decM s = (Msg.zero, 50)) := HD.out.trans (if_pos h7)
    clear HD
    go_enter Tryz.func10, Tryz.ntmps10
    go_upto_region 1 with (fail)
    rw [show w.alloc (.cells #[.int .u8 0, .int .u16 0, .int .u32 0, .string { data := #[] }, .int .u32 0, .int .u32 0, .int .u32 0, .int .u16 0, .string { data := #[] }, .string { data := #[] }, .string { data := #[] }, .string { data := #[] }, .slice none 0 0, .int .u8 0, .int .u32 0, .int .u64 0, .slice none 0 0, .int .u8 0, .int .u32 0, .int .u32 0, .int .u64 0, .int .u32 0, .string { data := #[] }, .int .u16 0, .int .u32 0, .int .u8 0, .int .u32 0, .int .u64 0, .int .u32 0, .int .u32 0, .int .u32 0, .int .u64 0, .string { data := #[] }, .string { data := #[] }, .string { data := #[] }, .string { data := #[] }] 33) = W from hW]
    clear hW
    go_upto_region 2 with (fail)
    refine wp_region_lit ?_
    refine wpList_plain rfl fun K hK => ?_
    go_simp
    refine hK _ _ ?_
    clear hK K
    refine wpl_store_row rfl 33 (.tmp 2) (.tmp 12) rfl rfl w.heap.size (Msg.zero.cells (.slice none 0 0) (.slice none 0 0)) rfl rfl 33 _ HZ5.out rfl (msg_one _ _ _ rfl rfl) (by kernel_rfl) ?_
    intro V hv2 mv
    refine wpList_plain rfl fun K hK => ?_
    go_simp
    refine hK _ _ ?_
    clear hK K
    refine wpList_nil ?_
    have hrgV : V.rangeAt w.heap.size 0 (Msg.zero.cells (.slice none 0 0) (.slice none 0 0)) := fun j u hu => by rw [Nat.zero_add, cell_of hv2, List.getElem?_toArray]; exact hu
    have MV : Hid (Mod (fun _ => False) w V) := M5.out.trans' mv fun j hj e => by omega
    go_wp2
    exact rdec_zero w V s 50 hrgV hv.out MV.out _ rfl rfl rfl
  have t1 : decide ((s.size : Int) < 7) = false := by simp; omega
  have HD1 := Lib.hid (HD.out.trans (if_neg h7))
  clear HD
  have hT4 := fun U => read_any (s.extract 0 4) U (by rw [ByteArray.size_extract]; omega)
  have hlt := leNat_lt (s.extract 0 4).data.toList
  have hb2 : (s.extract 0 4).data.toList.length = 4 := by rw [bsize, ByteArray.size_extract]; omega
  rw [hb2] at hlt
  have hlt : leNat (s.extract 0 4).data.toList < 4294967296 := hlt
  generalize leNat (s.extract 0 4).data.toList = n at *
  have b4 : (4 : Int) ≤ s.size := by omega
  have b4' : 4 ≤ s.size := by omega
  clear hb2
  go_enter Tryz.func10, Tryz.ntmps10
  go_upto_region 1 with (fail)
  rw [show w.alloc (.cells #[.int .u8 0, .int .u16 0, .int .u32 0, .string { data := #[] }, .int .u32 0, .int .u32 0, .int .u32 0, .int .u16 0, .string { data := #[] }, .string { data := #[] }, .string { data := #[] }, .string { data := #[] }, .slice none 0 0, .int .u8 0, .int .u32 0, .int .u64 0, .slice none 0 0, .int .u8 0, .int .u32 0, .int .u32 0, .int .u64 0, .int .u32 0, .string { data := #[] }, .int .u16 0, .int .u32 0, .int .u8 0, .int .u32 0, .int .u64 0, .int .u32 0, .int .u32 0, .int .u32 0, .int .u64 0, .string { data := #[] }, .string { data := #[] }, .string { data := #[] }, .string { data := #[] }] 33) = W from hW]
  clear hW
  go_wp2_with fail
  refine (hT4 _).mono ?_
  rintro e w1 ⟨rfl, rfl⟩
  clear hT4
  by_cases h2 : n ≠ s.size
  · have t2 : ((n : Int) != (s.size : Int)) = true := by simp; omega
    have hv : Hid (decM s = (Msg.zero, 51)) := HD1.out.trans (if_pos h2)
    clear HD1
    go_upto_region 4 with (fail)
    refine wp_region_lit ?_
    refine wpList_plain rfl fun K hK => ?_
    go_simp
    refine hK _ _ ?_
    clear hK K
    refine wpl_store_row rfl 33 (.tmp 2) (.tmp 20) rfl rfl w.heap.size (Msg.zero.cells (.slice none 0 0) (.slice none 0 0)) rfl rfl 33 _ HZ5.out rfl (msg_one _ _ _ rfl rfl) (by kernel_rfl) ?_
    intro V hv2 mv
    refine wpList_plain rfl fun K hK => ?_
    go_simp
    refine hK _ _ ?_
    clear hK K
    refine wpList_nil ?_
    have hrgV : V.rangeAt w.heap.size 0 (Msg.zero.cells (.slice none 0 0) (.slice none 0 0)) := fun j u hu => by rw [Nat.zero_add, cell_of hv2, List.getElem?_toArray]; exact hu
    have MV : Hid (Mod (fun _ => False) w V) := M5.out.trans' mv fun j hj e => by omega
    go_wp2
    exact rdec_zero w V s 51 hrgV hv.out MV.out _ rfl rfl rfl
  have t2 : ((n : Int) != (s.size : Int)) = false := by simp at h2 ⊢; omega
  have HD2 := Lib.hid (HD1.out.trans (if_neg h2))
  clear HD1
  by_cases h3 : 8192 < s.size
  · have t3 : decide (8192 < (s.size : Int)) = true := by simp; omega
    have hv : Hid (decM s = (Msg.zero, 4)) := HD2.out.trans (if_pos h3)
    clear HD2
    go_upto_region 6 with (fail)
    refine wp_region_lit ?_
    refine wpList_plain rfl fun K hK => ?_
    go_simp
    refine hK _ _ ?_
    clear hK K
    refine wpl_store_row rfl 33 (.tmp 2) (.tmp 24) rfl rfl w.heap.size (Msg.zero.cells (.slice none 0 0) (.slice none 0 0)) rfl rfl 33 _ HZ5.out rfl (msg_one _ _ _ rfl rfl) (by kernel_rfl) ?_
    intro V hv2 mv
    refine wpList_plain rfl fun K hK => ?_
    go_simp
    refine hK _ _ ?_
    clear hK K
    refine wpList_nil ?_
    have hrgV : V.rangeAt w.heap.size 0 (Msg.zero.cells (.slice none 0 0) (.slice none 0 0)) := fun j u hu => by rw [Nat.zero_add, cell_of hv2, List.getElem?_toArray]; exact hu
    have MV : Hid (Mod (fun _ => False) w V) := M5.out.trans' mv fun j hj e => by omega
    go_wp2
    exact rdec_zero w V s 4 hrgV hv.out MV.out _ rfl rfl rfl
  have t3 : decide (8192 < (s.size : Int)) = false := by simp; omega
  have HD3 := Lib.hid (HD2.out.trans (if_neg h3))
  clear HD2
  have ht : leNat (s.extract 4 5).data.toList = (s[4]'(by omega)).toNat := by
    have h3 : (s.extract 4 (4 + 1)).data.toList = (s.data.toList.drop 4).take 1 := extract_take s 4 1
    show leNat (s.extract 4 (4 + 1)).data.toList = _
    rw [h3, List.drop_eq_getElem_cons (by rw [bsize]; omega)]
    simp [leNat]
    rfl
  have htl : leNat (s.extract 4 5).data.toList < 256 := by rw [ht]; exact UInt8.toNat_lt _
  have hT2 := fun U => read_any (s.extract 5 7) U (by rw [ByteArray.size_extract]; omega)
  have hlg := leNat_lt (s.extract 5 7).data.toList
  have hb2 : (s.extract 5 7).data.toList.length = 2 := by rw [bsize, ByteArray.size_extract]; omega
  rw [hb2] at hlg
  have hlg : leNat (s.extract 5 7).data.toList < 65536 := hlg
  generalize leNat (s.extract 4 5).data.toList = t at *
  generalize leNat (s.extract 5 7).data.toList = g at *
  have hrs : (s.extract 7 s.size).size ≤ 8192 := by rw [ByteArray.size_extract]; omega
  clear hb2
  have ht' : (s[4]'(by omega)).toNat = t := ht.symm
  have b7 : (7 : Int) ≤ s.size := by omega
  have b7' : 7 ≤ s.size := by omega
  have b5 : (4 : Int) < s.size := by omega
  have b5' : 4 < s.size := by omega
  have hwg : IntKind.u16.wrap (g : Int) = g := by rw [IntKind.wrap_u16]; omega
  obtain ⟨M0, hM0⟩ : ∃ M0 : Msg, Msg.bare t g = M0 := ⟨_, rfl⟩
  have hMc : M0.cells (.slice none 0 0) (.slice none 0 0) = (.int .u8 t :: .int .u16 g :: (Msg.zero.cells (.slice none 0 0) (.slice none 0 0)).drop 2) := by rw [← hM0]; rfl
  have HM0 := Lib.hid hM0
  clear hM0 ht
  go_upto_region 7 with (fail)
  go_cut [4] from 25 to 31 (fun p wc => p = .pointer (some ⟨W.heap.size, 0, none⟩) ∧ Hid (wc.heap[W.heap.size]? = some (msgO M0 (.slice none 0 0) (.slice none 0 0))) ∧ Hid (Mod (fun _ => False) W wc))
  case first =>
    refine wp_region_any (by kernel_rfl) ?_
    change wpAny _ _ _ _ _ _ _ (World.drew _)
    refine wpAny_take (i := 0) (v := ?_) rfl (by kernel_rfl) (by kernel_rfl) (by kernel_rfl) (fun _ _ _ h => h) (Or.inl ⟨by rfl, ?_⟩) ?_
    rotate_left
    · intro w; go_simp
      all_goals with_reducible rfl
    refine wpAny_take (i := 1) (v := ?_) rfl (by kernel_rfl) (by kernel_rfl) (by kernel_rfl) (fun _ _ _ h => h) (Or.inl ⟨by rfl, ?_⟩) ?_
    rotate_left
    · intro w; go_simp
      all_goals with_reducible rfl
    refine wpAny_take (i := 2) (v := ?_) rfl (by kernel_rfl) (by kernel_rfl) (by kernel_rfl) (fun _ _ _ h => h) (Or.inl ⟨by rfl, ?_⟩) ?_
    rotate_left
    · intro w; go_simp
      all_goals with_reducible rfl
    refine wpAny_take (i := 3) (v := ?_) rfl (by kernel_rfl) (by kernel_rfl) (by kernel_rfl) (fun _ _ _ h => h) (Or.inl ⟨by rfl, ?_⟩) ?_
    rotate_left
    · intro w; go_simp
      all_goals with_reducible rfl
    refine wpAny_ready (rs := [4, 7]) (by kernel_rfl) (by simp) ?_
    refine AllReady.cons rfl (fun K hK => ?_) ?_
    rotate_left
    refine AllReady.cons rfl (fun K hK => ?_) AllReady.nil
    · go_simp
      refine hK _ _ ?_
      clear hK K
      refine wpAny_ready (rs := [4]) (by kernel_rfl) (by simp) ?_
      refine AllReady.cons rfl (fun K hK => ?_) AllReady.nil
      go_simp
      refine (hT2 _).mono ?_
      rintro e w1 ⟨rfl, rfl⟩
      refine hK _ _ ?_
      clear hK K
      refine wpAny_take (i := 5) (v := ?_) rfl (by kernel_rfl) (by kernel_rfl) (by kernel_rfl) (fun _ _ _ h => h) (Or.inl ⟨by rfl, ?_⟩) ?_
      rotate_left
      · intro w; go_simp
        all_goals with_reducible rfl
      refine wpAny_take (i := 6) (v := ?_) rfl (by kernel_rfl) (by kernel_rfl) (by kernel_rfl) (fun _ _ _ h => h) (Or.inl ⟨by rfl, ?_⟩) ?_
      rotate_left
      · intro w; go_simp
        all_goals with_reducible rfl
      refine wpAny_ready (rs := [8]) (by kernel_rfl) (by simp) ?_
      refine AllReady.cons rfl (fun K hK => ?_) AllReady.nil
      refine Eq.mpr (if_pos ?hwant) ?_
      case hwant => rfl
      refine wp_store_row 33 (.tmp 4) (.tmp 31) rfl W.heap.size (M0.cells (.slice none 0 0) (.slice none 0 0)).toArray rfl (by rw [hMc]; rfl) 33 _ (new_at W.drew _) (by kernel_rfl) rfl (by rw [Array.all_eq_true_iff_forall_mem]; intro v hv; exact msg_one M0 _ _ rfl rfl v (by simpa using hv)) ?_
      refine hK _ _ ?_
      clear hK K
      refine wpAny_done (by kernel_rfl) ?_ _
      go_wp2
      go_meet
      case rel => exact ⟨rfl, setRow_heap _ _ _ _ 33 _ (new_at W.drew _), ((Mod.refl (fun _ => False) W).drew.alloc _).trans' (mod_setRow _ _ _) fun k hk e => by omega⟩
    · go_simp
      refine (hT2 _).mono ?_
      rintro e w1 ⟨rfl, rfl⟩
      refine hK _ _ ?_
      clear hK K
      refine wpAny_take (i := 5) (v := ?_) rfl (by kernel_rfl) (by kernel_rfl) (by kernel_rfl) (fun _ _ _ h => h) (Or.inl ⟨by rfl, ?_⟩) ?_
      rotate_left
      · intro w; go_simp
        all_goals with_reducible rfl
      refine wpAny_take (i := 6) (v := ?_) rfl (by kernel_rfl) (by kernel_rfl) (by kernel_rfl) (fun _ _ _ h => h) (Or.inl ⟨by rfl, ?_⟩) ?_
      rotate_left
      · intro w; go_simp
        all_goals with_reducible rfl
      refine wpAny_ready (rs := [7]) (by kernel_rfl) (by simp) ?_
      refine AllReady.cons rfl (fun K hK => ?_) AllReady.nil
      go_simp
      refine hK _ _ ?_
      clear hK K
      refine wpAny_ready (rs := [8]) (by kernel_rfl) (by simp) ?_
      refine AllReady.cons rfl (fun K hK => ?_) AllReady.nil
      refine Eq.mpr (if_pos ?hwant) ?_
      case hwant => rfl
      refine wp_store_row 33 (.tmp 4) (.tmp 31) rfl W.heap.size (M0.cells (.slice none 0 0) (.slice none 0 0)).toArray rfl (by rw [hMc]; rfl) 33 _ (new_at W.drew _) (by kernel_rfl) rfl (by rw [Array.all_eq_true_iff_forall_mem]; intro v hv; exact msg_one M0 _ _ rfl rfl v (by simpa using hv)) ?_
      refine hK _ _ ?_
      clear hK K
      refine wpAny_done (by kernel_rfl) ?_ _
      go_wp2
      go_meet
      case rel => exact ⟨rfl, setRow_heap _ _ _ _ 33 _ (new_at W.drew _), ((Mod.refl (fun _ => False) W).drew.alloc _).trans' (mod_setRow _ _ _) fun k hk e => by omega⟩
  case rest =>
  obtain ⟨rfl, HB6, M6⟩ := hcut
  obtain ⟨bm, hbm⟩ : ∃ bm, W.heap.size = bm := ⟨_, rfl⟩
  rw [hbm] at HB6 ⊢
  have e0 : M0.ty = t := by rw [← HM0.out]; rfl
  have en : M0.names = [] := by rw [← HM0.out]; rfl
  have eq_ : M0.qids = [] := by rw [← HM0.out]; rfl
  have c0 : wc.cell? ⟨bm, 0, none⟩ = some (.int .u8 t) := (cell_of HB6.out 0).trans (by show some (Value.int .u8 M0.ty) = _; rw [e0])
  have HEn := Lib.hid en
  have HEq := Lib.hid eq_
  have HZ6 := Lib.hid ((M6.out.block _ hwW (fun x => x)).trans HZ5.out)
  have M7 := Lib.hid (M5.out.trans M6.out)
  have hwb : w.heap.size < bm := by omega
  have hbw : bm < wc.heap.size := lt_of HB6.out
  clear HZ5 M5 e0 en eq_ hT2 ht' hwg hMc
  have hK : Calls Tryz.prog 33 #[.int .u8 t] wc fun e w' => e = .returned (.bool (knownB t)) ∧ wc = w' := (known24_any t wc htl).mono fun e w' h => ⟨h.1, h.2.symm⟩
  cases hfo : fieldsOf t with
  | none =>
    have hk : knownB t = false := by unfold knownB; rw [hfo]; rfl
    rw [hk] at hK
    have hv : Hid (decM s = (Msg.zero, 240)) := by show _ = _; rw [HD3.out]; unfold docT; rw [hfo]
    have HZ5 := HZ6
    have M5 := M7
    clear HD3 hk HZ6 M7
    go_wp2_with fail
    refine hK.mono ?_
    rintro e w1 ⟨rfl, rfl⟩
    clear hK
    go_upto_region 9 with (fail)
    refine wp_region_lit ?_
    refine wpList_plain rfl fun K hK => ?_
    go_simp
    refine hK _ _ ?_
    clear hK K
    refine wpl_store_row rfl 33 (.tmp 2) (.tmp 36) rfl rfl w.heap.size (Msg.zero.cells (.slice none 0 0) (.slice none 0 0)) rfl rfl 33 _ HZ5.out rfl (msg_one _ _ _ rfl rfl) (by kernel_rfl) ?_
    intro V hv2 mv
    refine wpList_plain rfl fun K hK => ?_
    go_simp
    refine hK _ _ ?_
    clear hK K
    refine wpList_nil ?_
    have hrgV : V.rangeAt w.heap.size 0 (Msg.zero.cells (.slice none 0 0) (.slice none 0 0)) := fun j u hu => by rw [Nat.zero_add, cell_of hv2, List.getElem?_toArray]; exact hu
    have MV : Hid (Mod (fun _ => False) w V) := M5.out.trans' mv fun j hj e => by omega
    go_wp2
    exact rdec_zero w V s 240 hrgV hv.out MV.out _ rfl rfl rfl
  | some l =>
    have hk : knownB t = true := by unfold knownB; rw [hfo]; rfl
    rw [hk] at hK
    have HD4 : Hid (decM s = docE (foldD l M0 (s.extract 7 s.size))) := by show _ = _; rw [HD3.out, ← HM0.out]; unfold docT; rw [hfo]
    have hfl : fldsV t = l.map fun f => .string (fname f) := by unfold fldsV; rw [hfo]; rfl
    have hF := fields24N_any t wc htl
    rw [hfl] at hF
    have hnd := fieldsOf_nodup hfo
    have hll := fieldsOf_len hfo
    clear HD3 hk hfl
    go_wp2_with fail
    refine hK.mono ?_
    rintro e w1 ⟨rfl, rfl⟩
    clear hK
    go_wp2_with fail
    refine hF.mono ?_
    rintro e w1 ⟨v, rfl, hsl, m1⟩
    clear hF c0
    obtain ⟨va, vc, rfl, hvc, hvx⟩ := hsl.form
    rw [List.length_map] at hvc ⊢
    have HB7 := (m1.block _ (lt_of HB6.out) (fun x => x)).trans HB6.out
    have HZ7 := Lib.hid ((m1.block _ (lt_of HZ6.out) (fun x => x)).trans HZ6.out)
    have M8 := Lib.hid (M7.out.trans m1)
    have HD0 : Hid (DMsg w1 w1.heap.size bm M0 (.slice none 0 0) (.slice none 0 0)) := ⟨HB7, by rw [HEn.out]; exact OwnA.nil _ _ _, by rw [HEq.out]; exact OwnA.nil _ _ _, fun _ => rfl, fun _ => rfl⟩
    have hb1 : bm < w1.heap.size := lt_of HB7
    have HFr : Hid (FreshL l M0) := ⟨fun _ => HEn.out, fun _ => HEq.out⟩
    have hwz : w.heap.size < w1.heap.size := by omega
    clear HZ6 M7 HB6 HB7 M6 hsl m1
    go_wp2
    go_loopw [3, 6, 7, 8] (fun _ r i _ wr => ∃ (j : Nat) (x : Msg) (vn vq : Value) (rs : ByteArray), j ≤ l.length ∧ i = .int .i64 j ∧ r = .string rs ∧ rs.size ≤ 8192 ∧ Hid (DMsg wr w1.heap.size bm x vn vq) ∧ Hid (foldD l M0 (s.extract 7 s.size) = foldD (l.drop j) x rs) ∧ Hid (Mod (· = bm) w1 wr) ∧ Hid (FreshL (l.drop j) x)) (fun _ _ i _ _ => l.length - (intOf i).toNat)
    case atStart => exact ⟨0, M0, _, _, _, Nat.zero_le _, rfl, rfl, hrs, HD0.out, rfl, Mod.refl _ _, HFr.out⟩
    case round =>
      clear HD0 HFr
      obtain ⟨j, x, vn, vq, rs, hj, rfl, rfl, hrz, HDm, HG, HM, HFr⟩ := hrel
      have hBw := HM.out.size
      have HZ8 : Hid (wr.heap[w.heap.size]? = some (msgO Msg.zero (.slice none 0 0) (.slice none 0 0))) := (HM.out.block _ hwz (fun e => by omega)).trans HZ7.out
      have M9 : Hid (Mod (fun _ => False) w wr) := M8.out.trans' HM.out fun k hk e => by omega
      by_cases hjl : j < l.length
      · have q1 : decide ((j : Int) < (l.length : Int)) = true := by simp; omega
        have q1' : decide (j < l.length) = true := by simp; omega
        obtain ⟨f, hf⟩ : ∃ f, l[j] = f := ⟨_, rfl⟩
        have hdr : l.drop j = f :: l.drop (j + 1) := by rw [List.drop_eq_getElem_cons hjl, hf]
        obtain ⟨g1, o1, rfl, hg1, hg2, hc⟩ := hvx j (.string (fname f)) (by rw [List.getElem?_map, List.getElem?_eq_getElem hjl, hf]; rfl)
        have e1 : wr.cell? ⟨g1, o1 + j, none⟩ = some (.string (fname f)) := keepF HM.out (fun e => by omega) hc
        have i1 : (0 : Int) ≤ (j : Int) := by omega
        have i2 : (j : Int) < (l.length : Int) := by omega
        have i3 : (l.length : Int) ≤ (vc : Int) := by omega
        have hFr := HFr.out
        rw [hdr] at hFr
        have HG2 : Hid (foldD l M0 (s.extract 7 s.size) = match readF x rs f with | none => none | some (y, n) => foldD (l.drop (j + 1)) y (rs.extract n rs.size)) := by show _ = _; rw [HG.out, hdr]; rfl
        have hR := rread_any f w1.heap.size bm x vn vq rs wr HDm.out hb1 hBw (by omega) (fun e => hFr.1 (by rw [e]; exact List.mem_cons_self ..)) (fun e => hFr.2 (by rw [e]; exact List.mem_cons_self ..))
        have hnd2 : (f :: l.drop (j + 1)).Nodup := by rw [← hdr]; exact hnd.sublist (List.drop_sublist _ _)
        clear hc hf hdr HG HFr HDm
        go_wp2_with fail
        refine hR.mono ?_
        rintro e w2 ⟨n, rfl, hm2, hcs⟩
        clear hR
        have HZ5 : Hid (w2.heap[w.heap.size]? = some (msgO Msg.zero (.slice none 0 0) (.slice none 0 0))) := (hm2.block _ (lt_of HZ8.out) (fun e => by omega)).trans HZ8.out
        have M5 : Hid (Mod (fun _ => False) w w2) := M9.out.trans' hm2 fun k hk e => by omega
        rcases hcs with ⟨hr, rfl⟩ | ⟨y, k, vn2, vq2, hr, rfl, hD2⟩
        · have hv : Hid (decM s = (Msg.zero, 51)) := by show _ = _; rw [HD4.out, HG2.out, hr]; rfl
          clear HD4 HG2 hr hnd2 hFr hm2
          go_upto_region 17 with (fail)
          refine wp_region_lit ?_
          refine wpList_plain rfl fun K hK => ?_
          go_simp
          refine hK _ _ ?_
          clear hK K
          refine wpl_store_row rfl 33 (.tmp 2) (.tmp 56) rfl rfl w.heap.size (Msg.zero.cells (.slice none 0 0) (.slice none 0 0)) rfl rfl 33 _ HZ5.out rfl (msg_one _ _ _ rfl rfl) (by kernel_rfl) ?_
          intro V hv2 mv
          refine wpList_plain rfl fun K hK => ?_
          go_simp
          refine hK _ _ ?_
          clear hK K
          refine wpList_nil ?_
          have hrgV : V.rangeAt w.heap.size 0 (Msg.zero.cells (.slice none 0 0) (.slice none 0 0)) := fun j u hu => by rw [Nat.zero_add, cell_of hv2, List.getElem?_toArray]; exact hu
          have MV : Hid (Mod (fun _ => False) w V) := M5.out.trans' mv fun j hj e => by omega
          go_wp2
          exact rdec_zero w V s 51 hrgV hv.out MV.out _ rfl rfl rfl
        · have hkl := readF_le hr
          have hFr2 := Lib.hid (hFr.step hnd2 hr)
          have HG3 : Hid (foldD l M0 (s.extract 7 s.size) = foldD (l.drop (j + 1)) y (rs.extract k rs.size)) := by show _ = _; rw [HG2.out, hr]
          have HD2 := Lib.hid hD2
          have HM2 := Lib.hid (HM.out.trans hm2)
          have q3 : decide ((k : Int) < 0) = false := by simp
          have k1 : (0 : Int) ≤ (k : Int) := by omega
          have k2 : (k : Int) ≤ rs.size := by omega
          have hks : (rs.extract k rs.size).size ≤ 8192 := by rw [ByteArray.size_extract]; omega
          clear HG2 hr hnd2 hFr hm2 hD2 HM
          go_wp2
          go_roundw
          case rel => exact ⟨j + 1, y, vn2, vq2, _, hjl, by go_num, rfl, hks, HD2.out, HG3.out, HM2.out, hFr2.out⟩
          case measure => simp [intOf]; omega
      · have q1 : decide ((j : Int) < (l.length : Int)) = false := by simp; omega
        have q1' : decide (j < l.length) = false := by simp; omega
        have hfd : foldD l M0 (s.extract 7 s.size) = some (x, rs) := by rw [HG.out, List.drop_of_length_le (by omega)]; rfl
        have hsm : x.Small := by rw [← HM0.out] at hfd; exact foldD_small hfd hrs
        have HD5 : Hid (decM s = docE (some (x, rs))) := by show _ = _; rw [HD4.out, hfd]
        have HZ5 := HZ8
        have M5 := M9
        clear HG HD4 hfd HFr HZ8 M9 hvx HM
        by_cases hz : rs.size ≠ 0
        · have q2 : rs.toList.isEmpty = false := by rw [isEmpty_sz]; simpa using hz
          have hv : Hid (decM s = (Msg.zero, 51)) := HD5.out.trans (if_pos hz)
          clear HD5
          go_upto_region 20 with (fail)
          refine wp_region_lit ?_
          refine wpList_plain rfl fun K hK => ?_
          go_simp
          refine hK _ _ ?_
          clear hK K
          refine wpl_store_row rfl 33 (.tmp 2) (.tmp 62) rfl rfl w.heap.size (Msg.zero.cells (.slice none 0 0) (.slice none 0 0)) rfl rfl 33 _ HZ5.out rfl (msg_one _ _ _ rfl rfl) (by kernel_rfl) ?_
          intro V hv2 mv
          refine wpList_plain rfl fun K hK => ?_
          go_simp
          refine hK _ _ ?_
          clear hK K
          refine wpList_nil ?_
          have hrgV : V.rangeAt w.heap.size 0 (Msg.zero.cells (.slice none 0 0) (.slice none 0 0)) := fun j u hu => by rw [Nat.zero_add, cell_of hv2, List.getElem?_toArray]; exact hu
          have MV : Hid (Mod (fun _ => False) w V) := M5.out.trans' mv fun j hj e => by omega
          go_wp2
          exact rdec_zero w V s 51 hrgV hv.out MV.out _ rfl rfl rfl
        have q2 : rs.toList.isEmpty = true := by rw [isEmpty_sz]; simpa using hz
        have HD6 : Hid (decM s = if plainM x = false then (Msg.zero, 241) else if 16 < x.names.length ∨ 16 < x.qids.length then (Msg.zero, 4) else (x, 0)) := HD5.out.trans (if_neg hz)
        clear HD5 hz
        have hrg : wr.rangeAt bm 0 (x.cells vn vq) := fun j u hu => by rw [Nat.zero_add, cell_of HDm.out.obj, List.getElem?_toArray]; exact hu
        have hPl := rplain24_any x vn vq (w1.heap.size ≤ ·) wr hsm HDm.out.names.slAt (hT.mod M5.out)
        have hsz := msg_len x vn vq
        go_upto_region 21 with (fail)
        refine wp_region_lit ?_
        refine wpList_load_mid rfl 33 (.tmp 4) rfl bm 0 rfl (x.cells vn vq) _ hrg Tryz.underlying33 rfl (by kernel_rfl) ?_
        refine wpList_plain rfl fun K hK => ?_
        go_simp
        refine hPl.mono ?_
        rintro e w9 ⟨rfl, m9⟩
        refine hK _ _ ?_
        clear hK K hPl hrg
        have HN9 : Hid (SlAt w9 (w1.heap.size ≤ ·) vn (x.names.map .string)) := HDm.out.names.slAt.mod m9 fun _ _ _ x => x
        have HQ9 : Hid (RecsAt Qd.cells 3 w9 (w1.heap.size ≤ ·) vq x.qids) := RecsAt.mod (OwnA.recs (cs := Qd.cells) (sz := 3) (by decide) (fun _ => rfl) HDm.out.qids) m9 fun _ _ _ x => x
        have hob := (m9.block _ (lt_of HDm.out.obj) (fun x => x)).trans HDm.out.obj
        have HZ9 : Hid (w9.heap[w.heap.size]? = some (msgO Msg.zero (.slice none 0 0) (.slice none 0 0))) := (m9.block _ (lt_of HZ5.out) (fun x => x)).trans HZ5.out
        have M9 := Lib.hid (M5.out.trans m9)
        obtain ⟨na, nc, hvn, _, _⟩ := HN9.out.form
        rw [List.length_map] at hvn
        obtain ⟨qa, qc, hvq, _⟩ := HQ9.out.form
        have c12 : w9.cell? ⟨bm, 12, none⟩ = some (.slice na x.names.length nc) := (cell_of hob 12).trans (by rw [← hvn]; rfl)
        have c16 : w9.cell? ⟨bm, 16, none⟩ = some (.slice qa x.qids.length qc) := (cell_of hob 16).trans (by rw [← hvq]; rfl)
        have o1 : vn.oneCell' = true := by rw [hvn]; rfl
        have o2 : vq.oneCell' = true := by rw [hvq]; rfl
        have hrg9 : w9.rangeAt bm 0 (x.cells vn vq) := fun j u hu => by rw [Nat.zero_add, cell_of hob, List.getElem?_toArray]; exact hu
        have nl := hsm.nl
        have ql := hsm.ql
        clear HZ5 M5 m9 HDm hob hvn hvq
        have HZ5 := HZ9
        have M5 := M9
        clear HZ9 M9
        cases hp : plainM x with
        | false =>
          have hv : Hid (decM s = (Msg.zero, 241)) := HD6.out.trans (if_pos hp)
          clear HD6
          go_upto_region 22 with (fail)
          refine wp_region_lit ?_
          refine wpList_plain rfl fun K hK => ?_
          go_simp
          refine hK _ _ ?_
          clear hK K
          refine wpl_store_row rfl 33 (.tmp 2) (.tmp 66) rfl rfl w.heap.size (Msg.zero.cells (.slice none 0 0) (.slice none 0 0)) rfl rfl 33 _ HZ5.out rfl (msg_one _ _ _ rfl rfl) (by kernel_rfl) ?_
          intro V hv2 mv
          refine wpList_plain rfl fun K hK => ?_
          go_simp
          refine hK _ _ ?_
          clear hK K
          refine wpList_nil ?_
          have hrgV : V.rangeAt w.heap.size 0 (Msg.zero.cells (.slice none 0 0) (.slice none 0 0)) := fun j u hu => by rw [Nat.zero_add, cell_of hv2, List.getElem?_toArray]; exact hu
          have MV : Hid (Mod (fun _ => False) w V) := M5.out.trans' mv fun j hj e => by omega
          go_wp2
          exact rdec_zero w V s 241 hrgV hv.out MV.out _ rfl rfl rfl
        | true =>
          have HD7 := Lib.hid (HD6.out.trans (if_neg (by rw [hp]; simp)))
          clear HD6 hp
          by_cases hn16 : 16 < x.names.length
          · have q3 : decide (16 < (x.names.length : Int)) = true := by simp; omega
            have hv : Hid (decM s = (Msg.zero, 4)) := HD7.out.trans (if_pos (.inl hn16))
            clear HD7
            go_upto_region 24 with (fail)
            refine wp_region_lit ?_
            refine wpList_plain rfl fun K hK => ?_
            go_simp
            refine hK _ _ ?_
            clear hK K
            refine wpl_store_row rfl 33 (.tmp 2) (.tmp 77) rfl rfl w.heap.size (Msg.zero.cells (.slice none 0 0) (.slice none 0 0)) rfl rfl 33 _ HZ5.out rfl (msg_one _ _ _ rfl rfl) (by kernel_rfl) ?_
            intro V hv2 mv
            refine wpList_plain rfl fun K hK => ?_
            go_simp
            refine hK _ _ ?_
            clear hK K
            refine wpList_nil ?_
            have hrgV : V.rangeAt w.heap.size 0 (Msg.zero.cells (.slice none 0 0) (.slice none 0 0)) := fun j u hu => by rw [Nat.zero_add, cell_of hv2, List.getElem?_toArray]; exact hu
            have MV : Hid (Mod (fun _ => False) w V) := M5.out.trans' mv fun j hj e => by omega
            go_wp2
            exact rdec_zero w V s 4 hrgV hv.out MV.out _ rfl rfl rfl
          have q3 : decide (16 < (x.names.length : Int)) = false := by simp; omega
          by_cases hq16 : 16 < x.qids.length
          · have q4 : decide (16 < (x.qids.length : Int)) = true := by simp; omega
            have hv : Hid (decM s = (Msg.zero, 4)) := HD7.out.trans (if_pos (.inr hq16))
            clear HD7
            go_upto_region 24 with (fail)
            refine wp_region_lit ?_
            refine wpList_plain rfl fun K hK => ?_
            go_simp
            refine hK _ _ ?_
            clear hK K
            refine wpl_store_row rfl 33 (.tmp 2) (.tmp 77) rfl rfl w.heap.size (Msg.zero.cells (.slice none 0 0) (.slice none 0 0)) rfl rfl 33 _ HZ5.out rfl (msg_one _ _ _ rfl rfl) (by kernel_rfl) ?_
            intro V hv2 mv
            refine wpList_plain rfl fun K hK => ?_
            go_simp
            refine hK _ _ ?_
            clear hK K
            refine wpList_nil ?_
            have hrgV : V.rangeAt w.heap.size 0 (Msg.zero.cells (.slice none 0 0) (.slice none 0 0)) := fun j u hu => by rw [Nat.zero_add, cell_of hv2, List.getElem?_toArray]; exact hu
            have MV : Hid (Mod (fun _ => False) w V) := M5.out.trans' mv fun j hj e => by omega
            go_wp2
            exact rdec_zero w V s 4 hrgV hv.out MV.out _ rfl rfl rfl
          have q4 : decide (16 < (x.qids.length : Int)) = false := by simp; omega
          have hv : Hid (decM s = (x, 0)) := HD7.out.trans (if_neg (by omega))
          clear HD7
          go_upto_region 25 with (fail)
          refine wp_region_lit ?_
          refine wpList_load_mid rfl 33 (.tmp 4) rfl bm 0 rfl (x.cells vn vq) _ hrg9 Tryz.underlying33 rfl (by kernel_rfl) ?_
          refine wpl_store_row rfl 33 (.tmp 2) (.tmp 78) rfl rfl w.heap.size (x.cells vn vq) rfl rfl 33 _ HZ5.out rfl (msg_one _ _ _ o1 o2) (by kernel_rfl) ?_
          intro V' hv2 mv
          refine wpList_plain rfl fun K hK => ?_
          go_simp
          refine hK _ _ ?_
          clear hK K
          refine wpList_nil ?_
          have hrgV : V'.rangeAt w.heap.size 0 (x.cells vn vq) := fun j u hu => by rw [Nat.zero_add, cell_of hv2, List.getElem?_toArray]; exact hu
          have MV : Hid (Mod (fun _ => False) w V') := M5.out.trans' mv fun j hj e => by omega
          have HNV : Hid (SlAt V' (w.heap.size ≤ ·) vn (x.names.map .string)) := (HN9.out.mod mv fun g hg _ e => by omega).imp fun g hg => Nat.le_of_lt (Nat.lt_of_lt_of_le hwz hg)
          have HQV : Hid (RecsAt Qd.cells 3 V' (w.heap.size ≤ ·) vq x.qids) := (HQ9.out.mod mv fun g hg _ e => by omega).imp fun g hg => Nat.le_of_lt (Nat.lt_of_lt_of_le hwz hg)
          go_wp2
          exact rdec_fin w V' s x vn vq 0 hrgV hv.out HNV.out HQV.out MV.out _ rfl rfl rfl
end Go.Proofs.YtklpopmjpgdjnaaGreatDoor
