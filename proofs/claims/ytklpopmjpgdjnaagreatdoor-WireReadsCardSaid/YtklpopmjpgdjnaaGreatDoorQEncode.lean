/- Package wire's Encode and May. -/
import Derived.Test.YtklpopmjpgdjnaaGreatDoorQGk
import Derived.Test.YtklpopmjpgdjnaaGreatDoorQPenStr
import Derived.Test.YtklpopmjpgdjnaaGreatDoorQGc
import Derived.Deep.DeepCutAuto
set_option linter.unusedVariables false
set_option linter.unusedSimpArgs false
namespace Go.Proofs.YtklpopmjpgdjnaaGreatDoor
open Go.RowKit

theorem SlAt.lt' {w : World} {P : Nat → Prop} {v : Value} {xs : List Value} (h : SlAt w P v xs) : SlAt w (fun g => P g ∧ g < w.heap.size) v xs := by
  rcases h with h | ⟨g, off, cap, h1, h2, h3, h4⟩
  · exact .inl h
  · exact .inr ⟨g, off, cap, h1, ⟨h2, h3⟩, h3, h4⟩
theorem msg_len (m : Msg) (vn vq : Value) : (m.cells vn vq).length = 36 := rfl
theorem msg_one (m : Msg) (vn vq : Value) (h1 : vn.oneCell' = true) (h2 : vq.oneCell' = true) : ∀ u ∈ m.cells vn vq, u.oneCell' = true := by
  intro u hu
  simp only [Msg.cells, List.mem_cons, List.not_mem_nil, or_false] at hu
  rcases hu with rfl | rfl | rfl | rfl | rfl | rfl | rfl | rfl | rfl | rfl | rfl | rfl | rfl | rfl | rfl | rfl | rfl | rfl | rfl | rfl | rfl | rfl | rfl | rfl | rfl | rfl | rfl | rfl | rfl | rfl | rfl | rfl | rfl | rfl | rfl | rfl <;> first | rfl | assumption
theorem fieldsOf_len {t : Nat} {l : List Fld} (h : fieldsOf t = some l) : l.length ≤ 4 := by
  unfold fieldsOf at h
  split at h <;> first | (injection h with h; subst h; decide) | cases h
set_option maxHeartbeats 4000000 in
set_option maxRecDepth 100000 in
theorem encode_any (m : Msg) (vn vq : Value) (P : Nat → Prop) (w : World) (hk : m.Ok) (hs : m.Small) (hn : SlAt w P vn (m.names.map .string)) (hq : RecsAt Qd.cells 3 w P vq m.qids) (hP : ∀ g, P g → g < w.heap.size) (hT : Tabs w) :
    Calls Tryz.prog 15 #[.agg (m.cells vn vq).toArray] w fun e w' => e = .returned (.tuple #[.string (encM m).1, .int .i64 (encM m).2]) ∧ Mod (fun _ => False) w w' := by
  obtain ⟨W, hW⟩ : ∃ W, w.alloc (.cells (m.cells vn vq).toArray 33) = W := ⟨_, rfl⟩
  have hb : W.heap[w.heap.size]? = some (msgO m vn vq) := by subst hW; exact new_at _ _
  have m0 : Mod (fun _ => False) w W := by subst hW; exact (Mod.refl _ w).alloc _
  have c0 : W.drew.cell? ⟨w.heap.size, 0, none⟩ = some (.int .u8 m.ty) := (cell_of (w := W.drew) hb 0).trans rfl
  have hF := fields_any W.drew
  have HM0 : Hid (MsgP W P w.heap.size m vn vq) := ⟨hb, hn.mod m0 (fun _ _ _ x => x), hq.mod m0 (fun _ _ _ x => x)⟩
  have hvn : vn.oneCell' = true := by obtain ⟨a, c, rfl, _⟩ := hn.form; rfl
  have hvq : vq.oneCell' = true := by obtain ⟨a, c, rfl, _⟩ := hq.form; rfl
  have HT := Lib.hid hT
  have M0 := Lib.hid m0
  have hty := hk.ty
  clear hb m0 hn hq hT
  go_enter Tryz.func15, Tryz.ntmps15
  go_wp2
  clear hW
  go_cut [4, 5] from 9 to 15 (fun v bv wc => ∃ mb va vl vc, v = .slice va vl vc ∧ bv = .bool (fieldsOf m.ty).isSome ∧ Hid (FS W.drew wc mb fldTab) ∧ Hid (SlAt wc (mb < ·) (.slice va vl vc) (fnV ((fieldsOf m.ty).getD []))))
  case first =>
    refine wp_region_any (by kernel_rfl) ?_
    change wpAny _ _ _ _ _ _ _ (World.drew _)
    refine wpAny_take (i := 1) (v := ?_) rfl (by kernel_rfl) (by kernel_rfl) (by kernel_rfl) (fun _ _ _ h => h) (Or.inl ⟨by rfl, ?_⟩) ?_
    rotate_left
    · intro w; go_simp
      all_goals with_reducible rfl
    refine wpAny_ready (rs := [0, 2]) (by kernel_rfl) (by simp) ?_
    refine AllReady.cons rfl (fun K hK => ?_) ?_
    rotate_left
    refine AllReady.cons rfl (fun K hK => ?_) AllReady.nil
    · go_simp
      refine hK _ _ ?_
      clear hK K
      refine wpAny_ready (rs := [0]) (by kernel_rfl) (by simp) ?_
      refine AllReady.cons rfl (fun K hK => ?_) AllReady.nil
      go_simp
      refine hF.mono ?_
      rintro e w1 ⟨mb, rfl, hFS⟩
      obtain ⟨v, hlk, hsl, va, vl, vc, rfl⟩ := hFS.look m.ty hty
      have c1 := keepR hFS.m c0
      refine hK _ _ ?_
      clear hK K
      refine wpAny_ready (rs := [3]) (by kernel_rfl) (by simp) ?_
      refine AllReady.cons rfl (fun K hK => ?_) AllReady.nil
      go_simp
      refine hK _ _ ?_
      clear hK K
      refine wpAny_take (i := 4) (v := ?_) rfl (by kernel_rfl) (by kernel_rfl) (by kernel_rfl) (fun _ _ _ h => h) (Or.inl ⟨by rfl, ?_⟩) ?_
      rotate_left
      · intro w; go_simp
        all_goals with_reducible rfl
      refine wpAny_take (i := 5) (v := ?_) rfl (by kernel_rfl) (by kernel_rfl) (by kernel_rfl) (fun _ _ _ h => h) (Or.inl ⟨by rfl, ?_⟩) ?_
      rotate_left
      · intro w; go_simp
        all_goals with_reducible rfl
      refine wpAny_take (i := 6) (v := ?_) rfl (by kernel_rfl) (by kernel_rfl) (by kernel_rfl) (fun _ _ _ h => h) (Or.inl ⟨by rfl, ?_⟩) ?_
      rotate_left
      · intro w; go_simp
        all_goals with_reducible rfl
      refine wpAny_ready (rs := [7]) (by kernel_rfl) (by simp) ?_
      refine AllReady.cons rfl (fun K hK => ?_) AllReady.nil
      go_simp
      refine hK _ _ ?_
      clear hK K
      refine wpAny_ready (rs := [8]) (by kernel_rfl) (by simp) ?_
      refine AllReady.cons rfl (fun K hK => ?_) AllReady.nil
      go_simp
      refine hK _ _ ?_
      clear hK K
      refine wpAny_done (by kernel_rfl) ?_ _
      go_wp2
      go_meet
      case rel => exact ⟨mb, va, vl, vc, rfl, rfl, hFS, hsl⟩
    · go_simp
      refine hF.mono ?_
      rintro e w1 ⟨mb, rfl, hFS⟩
      obtain ⟨v, hlk, hsl, va, vl, vc, rfl⟩ := hFS.look m.ty hty
      have c1 := keepR hFS.m c0
      refine hK _ _ ?_
      clear hK K
      refine wpAny_ready (rs := [2]) (by kernel_rfl) (by simp) ?_
      refine AllReady.cons rfl (fun K hK => ?_) AllReady.nil
      go_simp
      refine hK _ _ ?_
      clear hK K
      refine wpAny_ready (rs := [3]) (by kernel_rfl) (by simp) ?_
      refine AllReady.cons rfl (fun K hK => ?_) AllReady.nil
      go_simp
      refine hK _ _ ?_
      clear hK K
      refine wpAny_take (i := 4) (v := ?_) rfl (by kernel_rfl) (by kernel_rfl) (by kernel_rfl) (fun _ _ _ h => h) (Or.inl ⟨by rfl, ?_⟩) ?_
      rotate_left
      · intro w; go_simp
        all_goals with_reducible rfl
      refine wpAny_take (i := 5) (v := ?_) rfl (by kernel_rfl) (by kernel_rfl) (by kernel_rfl) (fun _ _ _ h => h) (Or.inl ⟨by rfl, ?_⟩) ?_
      rotate_left
      · intro w; go_simp
        all_goals with_reducible rfl
      refine wpAny_take (i := 6) (v := ?_) rfl (by kernel_rfl) (by kernel_rfl) (by kernel_rfl) (fun _ _ _ h => h) (Or.inl ⟨by rfl, ?_⟩) ?_
      rotate_left
      · intro w; go_simp
        all_goals with_reducible rfl
      refine wpAny_ready (rs := [7]) (by kernel_rfl) (by simp) ?_
      refine AllReady.cons rfl (fun K hK => ?_) AllReady.nil
      go_simp
      refine hK _ _ ?_
      clear hK K
      refine wpAny_ready (rs := [8]) (by kernel_rfl) (by simp) ?_
      refine AllReady.cons rfl (fun K hK => ?_) AllReady.nil
      go_simp
      refine hK _ _ ?_
      clear hK K
      refine wpAny_done (by kernel_rfl) ?_ _
      go_wp2
      go_meet
      case rel => exact ⟨mb, va, vl, vc, rfl, rfl, hFS, hsl⟩
  case rest =>
  obtain ⟨mb, va, vl, vc, rfl, rfl, HFS, HSL⟩ := hcut
  have hFS := HFS.out
  have hsl := HSL.out
  have M1 : Hid (Mod (fun _ => False) W wc) := hFS.m.ofDrew
  have HSl := Lib.hid hsl.lt'
  have hsz := msg_len m vn vq
  have HM1 := HM0.out.mod M1.out (fun x => x) (fun _ _ x => x)
  have hrg : wc.rangeAt w.heap.size 0 (m.cells vn vq) := fun j u hu => by rw [Nat.zero_add, cell_of HM1.obj, List.getElem?_toArray]; exact hu
  have HMs := Lib.hid HM1
  clear HM1 hF c0 hsl hFS HFS HSL
  go_upto_region 2 with (fail)
  refine wp_region_lit ?_
  refine wpList_load_mid rfl 33 (.tmp 1) rfl w.heap.size 0 rfl (m.cells vn vq) _ hrg Tryz.underlying33 rfl (by kernel_rfl) ?_
  refine wpList_plain rfl fun K hK => ?_
  go_simp
  refine hK _ _ ?_
  clear hK K
  refine wpl_store_row rfl 33 (.tmp 6) (.tmp 16) rfl rfl wc.heap.size (m.cells vn vq) rfl rfl 33 _ (new_at wc _) rfl (msg_one m vn vq hvn hvq) (by kernel_rfl) ?_
  intro V hv2 mv
  refine wpList_nil ?_
  have M2 : Hid (Mod (fun _ => False) wc V) := ((Mod.refl (fun _ => False) wc).alloc _).trans' mv fun k hk e => by omega
  have HB2 : Hid (V.heap[wc.heap.size]? = some (msgO m vn vq)) := hv2
  clear hv2 mv hrg
  obtain ⟨rb, hrb⟩ : ∃ rb, wc.heap.size = rb := ⟨_, rfl⟩
  have hws : w.heap.size < wc.heap.size := lt_of HMs.out.obj
  have hrl : rb < V.heap.size := by rw [← hrb]; exact lt_of HB2.out
  have hPr : ∀ g, P g → g ≠ rb := fun g hg e => by have := hP g hg; omega
  have HMr : Hid (MsgAt V P rb m) := ⟨vn, vq, by rw [← hrb]; exact HB2.out, HMs.out.names.mod M2.out fun _ _ _ x => x, HMs.out.qids.mod M2.out fun _ _ _ x => x⟩
  have HMb : Hid (MsgAt V P w.heap.size m) := ⟨vn, vq, HMs.out.mod M2.out (fun x => x) (fun _ _ x => x)⟩
  have HSl2 : Hid (SlAt V (fun g => g ≠ rb) (.slice va vl vc) (fnV ((fieldsOf m.ty).getD []))) := (HSl.out.mod M2.out fun _ _ _ x => x).imp fun g hg e => by omega
  rw [hrb]
  clear HB2 HMs HSl
  have hD := fun hl => done_c { data := #[] } rb P m (.slice va vl vc) ((fieldsOf m.ty).getD []) V HSl2.out hl HMr.out hrl hPr
  cases hfo : fieldsOf m.ty with
  | none =>
    have HV : Hid (encM m = (ByteArray.empty, 240)) := by show _ = _; unfold encM; rw [hfo]
    rw [hfo] at hD
    have hD := hD (by simp)
    go_wp2_with fail
    refine hD.mono ?_
    rintro e w3 ⟨b3, rfl, _, m3⟩
    clear hD
    go_wp2
    go_ret2
    exact ⟨by rw [HV.out]; rfl, ((M0.out.trans M1.out).trans M2.out).trans' m3 fun k hk e => by omega⟩
  | some l =>
    have hll := fieldsOf_len hfo
    rw [hfo] at hD
    have hl6 : l.length ≤ 1000000 := by omega
    have hD := hD hl6
    have HVe : Hid (emptyM (l.foldl Fld.clear m) = false → encM m = (ByteArray.empty, 2)) := fun h => by unfold encM; rw [hfo]; exact if_pos h
    have HVp : Hid (emptyM (l.foldl Fld.clear m) = true → plainM m = false → encM m = (ByteArray.empty, 241)) := fun h1 h2 => by
      unfold encM
      rw [hfo]
      show (if _ then _ else _) = _
      rw [if_neg (by rw [h1]; simp), if_pos h2]
    go_wp2_with fail
    refine hD.mono ?_
    rintro e w3 ⟨b3, rfl, hm3, m3⟩
    clear hD
    obtain ⟨vn3, vq3, hM3⟩ := hm3
    have M3 : Hid (Mod (fun _ => False) w w3) := ((M0.out.trans M1.out).trans M2.out).trans' m3 fun k hk e => by omega
    have hrg3 : w3.rangeAt rb 0 ((l.foldl Fld.clear m).cells vn3 vq3) := fun j u hu => by rw [Nat.zero_add, cell_of hM3.obj, List.getElem?_toArray]; exact hu
    have hE := empty_any (l.foldl Fld.clear m) vn3 vq3 P w3 (clears_ok l hk) (clears_small l hs) hM3.names hM3.qids
    have HMb3 := Lib.hid (HMb.out.mod m3 (fun e => by omega) hPr)
    have HSl3 : Hid (SlAt w3 (fun g => g ≠ rb) (.slice va vl vc) (fnV l)) := by
      have := HSl2.out.mod m3 fun g hg _ e => hg e
      rw [hfo] at this
      exact this
    clear hM3 m3
    go_upto_region 6 with (fail)
    refine wp_region_lit ?_
    refine wpList_load_mid rfl 33 (.tmp 6) rfl rb 0 rfl ((l.foldl Fld.clear m).cells vn3 vq3) _ hrg3 Tryz.underlying33 rfl (by kernel_rfl) ?_
    refine wpList_plain rfl fun K hK => ?_
    go_simp
    refine hE.mono ?_
    rintro e w4 ⟨rfl, m4⟩
    refine hK _ _ ?_
    clear hK K hE hrg3
    cases he : emptyM (l.foldl Fld.clear m) with
    | false =>
      have HV := Lib.hid (HVe.out he)
      clear he HVe HVp
      go_wp2
      go_ret2
      exact ⟨by rw [HV.out]; rfl, M3.out.trans m4⟩
    | true =>
      have HVp2 := Lib.hid (HVp.out he)
      have HVl : Hid (plainM m = true → encM m = (if (l.foldl (Fld.wr m) ([], false)).2 = true ∨ 8192 < (l.foldl (Fld.wr m) ([], false)).1.length + 7 then (ByteArray.empty, 4) else (bs (leBytes 4 ((l.foldl (Fld.wr m) ([], false)).1.length + 7) ++ leBytes 1 m.ty ++ leBytes 2 m.tag ++ (l.foldl (Fld.wr m) ([], false)).1), 0))) := fun h2 => by
        unfold encM
        rw [hfo]
        show (if _ then _ else if _ then _ else _) = _
        rw [if_neg (by rw [he]; simp), if_neg (by rw [h2]; simp)]
      clear HVe HVp he
      have M4 := Lib.hid (M3.out.trans m4)
      obtain ⟨vn4, vq4, hM4⟩ := HMb3.out.mod m4 (fun x => x) (fun _ _ x => x)
      have hrg4 : w4.rangeAt w.heap.size 0 (m.cells vn4 vq4) := fun j u hu => by rw [Nat.zero_add, cell_of hM4.obj, List.getElem?_toArray]; exact hu
      have hPl := plain_any m vn4 vq4 P w4 hs hM4.names (HT.out.mod M4.out)
      have HM4 := Lib.hid hM4
      have HSl4 : Hid (SlAt w4 (fun g => g ≠ rb) (.slice va vl vc) (fnV l)) := HSl3.out.mod m4 fun _ _ _ x => x
      clear hM4 HMb3 HSl3 m4 M3
      go_upto_region 8 with (fail)
      refine wp_region_lit ?_
      refine wpList_load_mid rfl 33 (.tmp 1) rfl w.heap.size 0 rfl (m.cells vn4 vq4) _ hrg4 Tryz.underlying33 rfl (by kernel_rfl) ?_
      refine wpList_plain rfl fun K hK => ?_
      go_simp
      refine hPl.mono ?_
      rintro e w5 ⟨rfl, m5⟩
      refine hK _ _ ?_
      clear hK K hPl hrg4
      have M5 := Lib.hid (M4.out.trans m5)
      cases hp : plainM m with
      | false =>
        have HV := Lib.hid (HVp2.out hp)
        clear hp HVp2 HVl
        go_wp2
        go_ret2
        exact ⟨by rw [HV.out]; rfl, M5.out⟩
      | true =>
        have HVl2 := Lib.hid (HVl.out hp)
        clear hp HVp2 HVl
        have hs5 := M5.out.size
        have hwb : w.heap.size < w5.heap.size := Nat.lt_of_lt_of_le (lt_of HM4.out.obj) m5.size
        have hW := done_w { data := #[] } w.heap.size P m (.slice va vl vc) l w5 ((HSl4.out.mod m5 fun _ _ _ x => x).imp fun _ _ => trivial) hl6 ⟨vn4, vq4, HM4.out.mod m5 (fun x => x) (fun _ _ x => x)⟩ hwb (fun g hg => by have := hP g hg; omega) hk hs
        have HM5 : Hid (MsgP w5 P w.heap.size m vn4 vq4) := HM4.out.mod m5 (fun x => x) (fun _ _ x => x)
        have hle := wr_fold_le m l ([], false) (Nat.zero_le _)
        generalize l.foldl (Fld.wr m) ([], false) = O at *
        obtain ⟨o, lg⟩ := O
        simp only at hW hle HVl2
        clear HM4 HSl4 m5 M4
        go_wp2_with fail
        refine hW.mono ?_
        rintro e w6 ⟨bp, br, F', rfl, hp6, hF6, m6⟩
        have hLn := plen_any bp br F' 0 o lg false w6 hp6
        have M6 := Lib.hid (M5.out.trans m6)
        have HM6 := Lib.hid (HM5.out.mod m6 (fun x => x) (fun _ _ x => x))
        obtain ⟨_, _, p4, _, _, _⟩ := hp6.cells
        have HP6 := Lib.hid hp6
        have HF6 := Lib.hid hF6
        clear hW m6 HM5 hp6 hF6
        by_cases h8 : 8192 < o.length + 7
        · have t8 : decide (8192 < (o.length : Int) + 7) = true := by simp; omega
          have HV : Hid (encM m = (ByteArray.empty, 4)) := by show _ = _; rw [HVl2.out, if_pos (Or.inr h8)]
          clear h8 HVl2
          cases lg
          all_goals
            go_wp2_with (go_at_call 40; refine hLn.mono ?_; rintro e w7 ⟨rfl, rfl⟩)
            go_ret2
            exact ⟨by rw [HV.out]; rfl, M6.out⟩
        · have t8 : decide (8192 < (o.length : Int) + 7) = false := by simp; omega
          cases lg
          · have HV : Hid (encM m = (bs (leBytes 4 (o.length + 7) ++ leBytes 1 m.ty ++ leBytes 2 m.tag ++ o), 0)) := by show _ = _; rw [HVl2.out, if_neg (by simp; omega)]
            clear HVl2
            go_wp2_with (go_at_call 40; refine hLn.mono ?_; rintro e w7 ⟨rfl, rfl⟩)
            have hsz : ∀ n x, (bs (leBytes n x)).size = n := fun n x => by rw [bs_size, leBytes_length]
            have hap : ∀ a b : ByteArray, (a ++ b).size = a.size + b.size := fun a b => ByteArray.size_append
            have hol : (bs o).size = o.length := bs_size o
            have k1 := hk.ty
            have k2 := hk.tag
            have c0 : w7.drew.cell? ⟨w.heap.size, 0, none⟩ = some (.int .u8 m.ty) := (cell_of (w := w7.drew) HM6.out.obj 0).trans rfl
            have c1 : w7.drew.cell? ⟨w.heap.size, 1, none⟩ = some (.int .u16 m.tag) := (cell_of (w := w7.drew) HM6.out.obj 1).trans rfl
            have Mc : Hid (Mod (fun _ => False) w w7.drew) := M6.out.drew
            have HP7 : Hid (PenAt w7.drew F' bp 0 o br false false) := HP6.out.mod (Mod.refl (fun _ => False) w7).drew (fun _ x _ => x)
            have hSk : ∀ (U V : World), (U.cell? ⟨w.heap.size, 0, none⟩ = some (.int .u8 m.ty) ∧ U.cell? ⟨w.heap.size, 1, none⟩ = some (.int .u16 m.tag)) → Mod (fun _ => False) U V → (V.cell? ⟨w.heap.size, 0, none⟩ = some (.int .u8 m.ty) ∧ V.cell? ⟨w.heap.size, 1, none⟩ = some (.int .u16 m.tag)) := fun U V h hm => ⟨keepR hm h.1, keepR hm h.2⟩
            have hSb : ∀ (U V : World), (U.cell? ⟨w.heap.size, 0, none⟩ = some (.int .u8 m.ty) ∧ U.cell? ⟨w.heap.size, 1, none⟩ = some (.int .u16 m.tag)) → Below w5.heap.size U V → (V.cell? ⟨w.heap.size, 0, none⟩ = some (.int .u8 m.ty) ∧ V.cell? ⟨w.heap.size, 1, none⟩ = some (.int .u16 m.tag)) := fun U V h hm => ⟨(World.cell?_of_block (a := ⟨w.heap.size, 0, none⟩) (hm.block _ hwb)).trans h.1, (World.cell?_of_block (a := ⟨w.heap.size, 1, none⟩) (hm.block _ hwb)).trans h.2⟩
            clear hLn HM6 HP6 M6 p4 M1 HM0 M0 M2 HMr HMb HSl2 hD M5 HT hws hrl hPr
            refine wp_onlyN ?_
            go_region_held_law (fun w' => w'.cell? ⟨w.heap.size, 0, none⟩ = some (.int .u8 m.ty) ∧ w'.cell? ⟨w.heap.size, 1, none⟩ = some (.int .u16 m.tag)) (first | assumption | exact ⟨c0, c1⟩ | exact hSk _ _ (by assumption) m8 | exact hSb _ _ (by assumption) m8) (first
              | (go_at_call 41; refine (wU32 (o.length + 7) _ (by first | omega | (rw [IntKind.wrap_u32]; omega)) _).mono ?_; rintro e w8 ⟨rfl, m8⟩; have Mc := Lib.hid (Mc.out.trans m8); have HP7 := Lib.hid (HP7.out.mod m8 (fun _ x _ => x)))
              | (go_at_call 42; refine (wU8 m.ty _ (by omega) _).mono ?_; rintro e w8 ⟨rfl, m8⟩; have Mc := Lib.hid (Mc.out.trans m8); have HP7 := Lib.hid (HP7.out.mod m8 (fun _ x _ => x)))
              | (go_at_call 43; refine (wU16 m.tag _ (by omega) _).mono ?_; rintro e w8 ⟨rfl, m8⟩; have Mc := Lib.hid (Mc.out.trans m8); have HP7 := Lib.hid (HP7.out.mod m8 (fun _ x _ => x)))
              | (go_at_call 44; refine (pstr_any bp br w5.heap.size F' 0 o false false _ HP7.out HF6.out).mono ?_; rintro e w8 ⟨rfl, m8⟩; have Mc := Lib.hid (Mc.out.thenBelow m8 hs5)))
            all_goals first
              | (exfalso; omega)
              | (refine onlyN_out ?_
                 go_wp2
                 go_ret2
                 exact ⟨by rw [HV.out, bs_cat, bs_cat, bs_cat]; rfl, Mc.out⟩)
          · have HV : Hid (encM m = (ByteArray.empty, 4)) := by show _ = _; rw [HVl2.out, if_pos (Or.inl rfl)]
            clear h8 HVl2
            go_wp2_with (go_at_call 40; refine hLn.mono ?_; rintro e w7 ⟨rfl, rfl⟩)
            go_ret2
            exact ⟨by rw [HV.out]; rfl, M6.out⟩
end Go.Proofs.YtklpopmjpgdjnaaGreatDoor
