/- The document's Tags. -/
import Derived.Test.YtcadkaedahoefaaFidEnd
namespace Go.Proofs.Ytcadkaedahoefaa
open Go.RowKit

/-- a tag's place -/
def At (L : List Nat) (x : Nat) (i : Int) : Prop := (i = -1 ∧ inL L x = false) ∨ ∃ j : Nat, i = j ∧ inL L x = true ∧ ∃ h : j < L.length, L[j] = x ∧ ∀ y ∈ L.take j, y ≠ x
set_option maxHeartbeats 1000000 in
set_option maxRecDepth 100000 in
theorem rop_any (w : World) (b x : Nat) (v : Value) (L : List Nat) (P : Nat → Prop) (h : SlAt w P v (u16s L)) (hL : L.length ≤ 1000000) (c0 : w.cell? ⟨b, 0, none⟩ = some v) :
    Calls Try.prog 35 #[.pointer (some ⟨b, 0, none⟩), .int .u16 x] w fun e w' => ∃ i : Int, e = .returned (.int .i64 i) ∧ At L x i ∧ w' = w := by
  obtain ⟨va, vc, rfl, hvc, hvx⟩ := h.form
  clear h
  rw [u16s_length] at hvc c0
  go_enter Try.func35, Try.ntmps35
  go_wp2
  go_loop [4, 5] (fun r i => ∃ j : Nat, j ≤ L.length ∧ r = .int .i64 0 ∧ i = .int .i64 j ∧ Hid (∀ y ∈ L.take j, y ≠ x)) (fun _ i => L.length - (intOf i).toNat)
  case atStart => exact ⟨0, by omega, rfl, rfl, fun y hy => (by simp at hy)⟩
  case round =>
    obtain ⟨j, hj, rfl, rfl, HA⟩ := hrel
    by_cases hjl : j < L.length
    · obtain ⟨g, off, rfl, _, hg, hc⟩ := hvx j _ (u16s_get hjl)
      have t5 : decide ((j : Int) < (L.length : Int)) = true := by simp; omega
      have j1 : (0 : Int) ≤ (j : Int) := by omega
      have j2 : (j : Int) < (L.length : Int) := by omega
      have j3 : (L.length : Int) ≤ (vc : Int) := by omega
      have hstep : L.take (j + 1) = L.take j ++ [L[j]] := List.take_succ_eq_append_getElem hjl
      have HR : Hid (L[j] = x → At L x j) := fun h => Or.inr ⟨j, rfl, inL_true.2 (h ▸ List.getElem_mem hjl), hjl, h, HA.out⟩
      generalize L[j] = y at *
      clear hvx
      by_cases hxy : y = x
      · have HR2 := Lib.hid (HR.out hxy)
        subst hxy
        have u1 : ((y : Int) == (y : Int)) = true := by simp
        clear hstep HR
        go_wp2
        go_ret
        exact ⟨j, rfl, HR2.out, rfl⟩
      · have u1 : ((y : Int) == (x : Int)) = false := by simp; omega
        have HA2 : Hid (∀ z ∈ L.take (j + 1), z ≠ x) := by
          rw [hstep]
          intro z hz
          rcases List.mem_append.1 hz with h | h
          · exact HA.out z h
          · rw [List.mem_singleton.1 h]; exact hxy
        clear hstep hxy HR
        go_wp2
        go_round
        case rel => exact ⟨j + 1, hjl, rfl, by go_num, HA2⟩
        case measure => simp [intOf]; omega
    · obtain rfl : j = L.length := by omega
      have t5 : decide ((L.length : Int) < (L.length : Int)) = false := by simp
      have hHA := HA.out
      rw [List.take_length] at hHA
      have HR : Hid (At L x (-1)) := Or.inl ⟨rfl, inL_false.2 fun h => hHA x h rfl⟩
      clear hvx hHA
      go_wp2
      go_ret
      exact ⟨-1, rfl, HR.out, rfl⟩
theorem At.no {L : List Nat} {x : Nat} {i : Int} (h : At L x i) (hn : inL L x = false) : i = -1 := by
  rcases h with h | ⟨j, _, h, _⟩
  · exact h.1
  · rw [hn] at h; cases h
theorem At.yes {L : List Nat} {x : Nat} {i : Int} (h : At L x i) (hn : inL L x = true) : ∃ j : Nat, i = j ∧ ∃ h : j < L.length, L[j] = x ∧ ∀ y ∈ L.take j, y ≠ x := by
  rcases h with h | ⟨j, e, _, h⟩
  · rw [hn] at h; cases h.2
  · exact ⟨j, e, h⟩
theorem drop_split {L : List Nat} {x j : Nat} (hn : L.Nodup) (hj : j < L.length) (hx : L[j] = x) (ha : ∀ y ∈ L.take j, y ≠ x) : dropL x L = L.take j ++ L.drop (j + 1) := by
  unfold dropL
  have h1 : L = L.take j ++ (L[j] :: L.drop (j + 1)) := by rw [← List.drop_eq_getElem_cons hj, List.take_append_drop]
  have hb : ∀ y ∈ L.drop (j + 1), y ≠ x := by
    intro y hy e
    rw [h1, List.nodup_append] at hn
    have := (List.nodup_cons.1 hn.2.1).1
    rw [hx, ← e] at this
    exact this hy
  conv => lhs; rw [h1]
  rw [List.filter_append, List.filter_cons_of_neg (by simp [hx])]
  congr 1
  · exact List.filter_eq_self.2 fun y hy => by simpa using ha y hy
  · exact List.filter_eq_self.2 fun y hy => by simpa using hb y hy
theorem info_rwait : (Try.prog.info? 84).map (fun i => (i.zero, i.size, i.bytes)) = some (some (.agg #[.int .u16 0, .int .u16 0]), 2, 4) := by kernel_rfl
set_option maxHeartbeats 1000000 in
set_option maxRecDepth 100000 in
theorem rbegin_any (w : World) (F : Nat → Prop) (b tag : Nat) (s : TS) (h : TagsAt 42 w F b s) (hl : s.l.length ≤ 1000000) :
    Calls Try.prog 12 #[.pointer (some ⟨b, 0, none⟩), .int .u16 tag] w fun e w' => e = .returned (.int .i64 (beginS s tag).2) ∧ ∃ F', TagsAt 42 w' F' b (beginS s tag).1 ∧ Mod F w w' ∧ Grows w F F' := by
  obtain ⟨vl, vw, h⟩ := h
  have H := Lib.hid h
  obtain ⟨va, vc, rfl, hvc⟩ := h.ol.form
  obtain ⟨wa, wc, rfl, hwc⟩ := h.ow.form
  have hobj := h.obj
  have c0 : (w).cell? ⟨b, 0, none⟩ = some (.slice va s.l.length vc) := (cell_of hobj 0).trans rfl
  have c1 : (w).cell? ⟨b, 1, none⟩ = some (.slice wa s.w.length wc) := (cell_of hobj 1).trans rfl
  have c2 : (w).cell? ⟨b, 2, none⟩ = some (.int .i64 s.most) := (cell_of hobj 2).trans rfl
  have f0 : (w).frozen? ⟨b, 0, none⟩ = false := free_of hobj 0
  have f1 : (w).frozen? ⟨b, 1, none⟩ = false := free_of hobj 1
  have hCt := fun x => rop_any w b x _ s.l (fun _ => True) (h.ol.slAt.imp fun _ _ => trivial) (by omega) c0
  clear h hobj
  have hC1 := hCt tag
  clear hCt
  by_cases h1 : tag = 65535
  · have HV : Hid (beginS s tag = (s, 2)) := if_pos h1
    subst h1
    go_enter Try.func12, Try.ntmps12
    go_wp2
    go_ret
    exact ⟨by rw [HV.out]; rfl, F, by rw [HV.out]; exact ⟨_, _, H.out⟩, Mod.refl _ _, Grows.refl _ _⟩
  have t1 : ((tag : Int) == 65535) = false := by simp; omega
  cases h2 : inL s.l tag with
  | true =>
    have HV : Hid (beginS s tag = (s, 184)) := by show _ = _; unfold beginS; rw [if_neg h1, if_pos h2]
    have H2 := Lib.hid h2
    clear h2
    go_enter Try.func12, Try.ntmps12
    go_wp2_with fail
    refine (hC1).mono ?_
    rintro e w1 ⟨i, rfl, ha, rfl⟩
    obtain ⟨j, rfl, _⟩ := ha.yes H2.out
    go_wp2
    go_ret
    exact ⟨by rw [HV.out]; rfl, F, by rw [HV.out]; exact ⟨_, _, H.out⟩, Mod.refl _ _, Grows.refl _ _⟩
  | false =>
  by_cases h3 : s.most ≤ s.l.length
  · have HV : Hid (beginS s tag = (s, 6)) := by show _ = _; unfold beginS; rw [if_neg h1, if_neg (by rw [h2]; simp), if_pos h3]
    have t3 : decide (s.most ≤ (s.l.length : Int)) = true := by simp [h3]
    have H2 := Lib.hid h2
    clear h2
    go_enter Try.func12, Try.ntmps12
    go_wp2_with fail
    refine (hC1).mono ?_
    rintro e w1 ⟨i, rfl, ha, rfl⟩
    obtain rfl := ha.no H2.out
    clear ha
    go_wp2
    go_quiet (fail)
    go_wp2
    go_ret
    exact ⟨by rw [HV.out]; rfl, F, by rw [HV.out]; exact ⟨_, _, H.out.mod ((Mod.refl (fun _ => False) _).drewN _) (fun _ x => x.elim)⟩, (Mod.refl _ _).drewN _, Grows.refl _ _⟩
  · have HV : Hid (beginS s tag = (⟨s.l ++ [tag], s.w, s.most⟩, 0)) := by show _ = _; unfold beginS; rw [if_neg h1, if_neg (by rw [h2]; simp), if_neg h3]
    have t3 : decide (s.most ≤ (s.l.length : Int)) = false := by simp; omega
    have H2 := Lib.hid h2
    clear h2
    go_enter Try.func12, Try.ntmps12
    go_wp2_with fail
    refine (hC1).mono ?_
    rintro e w1 ⟨i, rfl, ha, rfl⟩
    obtain rfl := ha.no H2.out
    clear ha
    go_wp2
    go_quiet (fail)
    have MA := Lib.hid ((((Mod.refl (fun _ => False) w1).drewN nq)).alloc (.cells #[.int .u16 tag] 29))
    have HO : Hid (OwnA ((w1.drewN nq).alloc (.cells #[.int .u16 tag] 29)) 0 1 (.slice va s.l.length vc) s.l.length (u16s s.l)) := H.out.ol.mod MA.out (fun _ _ x => x)
    have A2 := Lib.hid (src_u16 (w1.drewN nq) tag)
    have C1 : Hid ((s.l.length + 1) * 2 ≤ 140737488355328) := by show _ ≤ _; omega
    have C2 : Hid (s.l.length + 1 ≤ 9223372036854775807) := by show _ ≤ _; omega
    go_wp2_with (refine wpl_appendB rfl (.tmp 25) (.tmp 27) _ _ rfl 0 29 (.int .u16 0) 1 2 Try.underlying34 info_u16 rfl (by decide) _ _ _ rfl HO.out _ 1 _ rfl A2.out C1.out C2.out (Nat.zero_le _) ?_; intro v' w3 hown' hgrow hblk; have hmd := (MA.out.mono (T := fun k => some k = (Value.slice va s.l.length vc).ownBlock) (fun _ _ x => x.elim)).trans hgrow; have hb3 := (hmd.block b (lt_of H.out.obj) (fun x => (H.out.fl b x).2 rfl)).trans H.out.obj; obtain ⟨va2, vc2, rfl, _⟩ := hown'.form; have f0 : w3.frozen? ⟨b, 0, none⟩ = false := free_of hb3 0; have c0 : w3.cell? ⟨b, 0, none⟩ = some (.slice va s.l.length vc) := (cell_of hb3 0).trans rfl; rw [show u16s s.l ++ u16s [tag] = u16s (s.l ++ [tag]) from (u16s_append _ _).symm] at hown'; obtain ⟨F', e1, e2, e3⟩ := H.out.setL (l' := s.l ++ [tag]) hmd (by rw [List.length_append]; exact hown') (fun k hk => by
      rcases hblk with h | h
      · rw [h] at hk; exact Or.inl hk
      · rw [h] at hk; injection hk with hk; subst hk; exact Or.inr (by simp)); have e1 := Lib.hid e1; have e2 := Lib.hid e2; have e3 := Lib.hid e3; clear hown' hgrow hblk hmd hb3)
    go_ret
    exact ⟨by rw [HV.out]; rfl, _, by rw [HV.out]; exact ⟨_, _, e1.out⟩, e2.out, e3.out⟩
set_option maxHeartbeats 1000000 in
set_option maxRecDepth 100000 in
theorem rflush_any (w : World) (F : Nat → Prop) (b tag old : Nat) (s : TS) (h : TagsAt 42 w F b s) (hl : s.l.length ≤ 1000000) (hw : s.w.length ≤ 1000000) :
    Calls Try.prog 15 #[.pointer (some ⟨b, 0, none⟩), .int .u16 tag, .int .u16 old] w fun e w' => e = .returned (.tuple #[.bool (flushS s tag old).2.1, .int .i64 (flushS s tag old).2.2]) ∧ ∃ F', TagsAt 42 w' F' b (flushS s tag old).1 ∧ Mod F w w' ∧ Grows w F F' := by
  obtain ⟨vl, vw, h⟩ := h
  have H := Lib.hid h
  obtain ⟨va, vc, rfl, hvc⟩ := h.ol.form
  obtain ⟨wa, wc, rfl, hwc⟩ := h.ow.form
  have hobj := h.obj
  have c0 : (w).cell? ⟨b, 0, none⟩ = some (.slice va s.l.length vc) := (cell_of hobj 0).trans rfl
  have c1 : (w).cell? ⟨b, 1, none⟩ = some (.slice wa s.w.length wc) := (cell_of hobj 1).trans rfl
  have c2 : (w).cell? ⟨b, 2, none⟩ = some (.int .i64 s.most) := (cell_of hobj 2).trans rfl
  have f0 : (w).frozen? ⟨b, 0, none⟩ = false := free_of hobj 0
  have f1 : (w).frozen? ⟨b, 1, none⟩ = false := free_of hobj 1
  have hCt := fun x => rop_any w b x _ s.l (fun _ => True) (h.ol.slAt.imp fun _ _ => trivial) (by omega) c0
  clear h hobj
  have hC1 := hCt tag
  have hC2 := hCt old
  clear hCt
  cases h1 : inL s.l tag with
  | false =>
    have HV : Hid (flushS s tag old = (s, false, 5)) := if_pos h1
    have H2 := Lib.hid h1
    clear h1 hC2
    go_enter Try.func15, Try.ntmps15
    go_wp2_with fail
    refine (hC1).mono ?_
    rintro e w1 ⟨i, rfl, ha, rfl⟩
    obtain rfl := ha.no H2.out
    go_wp2
    go_ret2
    exact ⟨by rw [HV.out]; rfl, F, by rw [HV.out]; exact ⟨_, _, H.out⟩, Mod.refl _ _, Grows.refl _ _⟩
  | true =>
  have H2 := Lib.hid h1
  cases h3 : inL s.l old with
  | false =>
    have HV : Hid (flushS s tag old = (s, false, 0)) := by show _ = _; unfold flushS; rw [if_neg (by rw [h1]; simp), if_pos (Or.inr h3)]
    have H3 := Lib.hid h3
    clear h1 h3
    go_enter Try.func15, Try.ntmps15
    go_wp2_with fail
    refine (hC1).mono ?_
    rintro e w1 ⟨i, rfl, ha, rfl⟩
    obtain ⟨j, rfl, _⟩ := ha.yes H2.out
    go_wp2_with fail
    refine (hC2).mono ?_
    rintro e w2 ⟨i2, rfl, hb, rfl⟩
    obtain rfl := hb.no H3.out
    go_wp2
    go_ret2
    exact ⟨by rw [HV.out]; rfl, F, by rw [HV.out]; exact ⟨_, _, H.out⟩, Mod.refl _ _, Grows.refl _ _⟩
  | true =>
    have H3 := Lib.hid h3
    by_cases h2 : old = tag
    · have HV : Hid (flushS s tag old = (s, false, 0)) := by show _ = _; unfold flushS; rw [if_neg (by rw [h1]; simp), if_pos (Or.inl h2.symm)]
      have t2 : ((old : Int) == (tag : Int)) = true := by simp [h2]
      clear h1 h3 h2
      go_enter Try.func15, Try.ntmps15
      go_wp2_with fail
      refine (hC1).mono ?_
      rintro e w1 ⟨i, rfl, ha, rfl⟩
      obtain ⟨j, rfl, _⟩ := ha.yes H2.out
      go_wp2_with fail
      refine (hC2).mono ?_
      rintro e w2 ⟨i2, rfl, hb, rfl⟩
      obtain ⟨j2, rfl, _⟩ := hb.yes H3.out
      go_wp2
      go_ret2
      exact ⟨by rw [HV.out]; rfl, F, by rw [HV.out]; exact ⟨_, _, H.out⟩, Mod.refl _ _, Grows.refl _ _⟩
    · have HV : Hid (flushS s tag old = (⟨s.l, s.w ++ [(tag, old)], s.most⟩, true, 0)) := by show _ = _; unfold flushS; rw [if_neg (by rw [h1]; simp), if_neg (by rw [h3]; simp; omega)]
      have t2 : ((old : Int) == (tag : Int)) = false := by simp; omega
      clear h1 h3 h2
      go_enter Try.func15, Try.ntmps15
      go_wp2_with fail
      refine (hC1).mono ?_
      rintro e w1 ⟨i, rfl, ha, rfl⟩
      obtain ⟨j, rfl, _⟩ := ha.yes H2.out
      go_wp2_with fail
      refine (hC2).mono ?_
      rintro e w2 ⟨i2, rfl, hb, rfl⟩
      obtain ⟨j2, rfl, _⟩ := hb.yes H3.out
      have MA := Lib.hid (((Mod.refl (fun _ => False) w2)).alloc (.cells #[.int .u16 tag, .int .u16 old] 84))
      have HO : Hid (OwnA ((w2).alloc (.cells #[.int .u16 tag, .int .u16 old] 84)) 0 2 (.slice wa s.w.length wc) s.w.length (wts s.w)) := H.out.ow.mod MA.out (fun _ _ x => x)
      have A2 := Lib.hid (src_wait (P := Try.prog) Try.underlying40 84 (w2) tag old)
      have C1 : Hid ((s.w.length + 1) * 4 ≤ 140737488355328) := by show _ ≤ _; omega
      have C2 : Hid (s.w.length + 1 ≤ 9223372036854775807) := by show _ ≤ _; omega
      go_wp2_with (refine wpl_appendB rfl (.tmp 25) (.tmp 29) _ _ rfl 0 84 (.agg #[.int .u16 0, .int .u16 0]) 2 4 Try.underlying40 info_rwait rfl (by decide) _ _ _ rfl HO.out _ 1 _ rfl A2.out C1.out C2.out (Nat.zero_le _) ?_; intro v' w3 hown' hgrow hblk; have hmd := (MA.out.mono (T := fun k => some k = (Value.slice wa s.w.length wc).ownBlock) (fun _ _ x => x.elim)).trans hgrow; have hb3 := (hmd.block b (lt_of H.out.obj) (fun x => (H.out.fw b x).2 rfl)).trans H.out.obj; obtain ⟨va2, vc2, rfl, _⟩ := hown'.form; have f1 : w3.frozen? ⟨b, 1, none⟩ = false := free_of hb3 1; have c1 : w3.cell? ⟨b, 1, none⟩ = some (.slice wa s.w.length wc) := (cell_of hb3 1).trans rfl; rw [show wts s.w ++ wts [(tag, old)] = wts (s.w ++ [(tag, old)]) from (wts_append _ _).symm] at hown'; obtain ⟨F', e1, e2, e3⟩ := H.out.setW (l' := s.w ++ [(tag, old)]) hmd (by rw [List.length_append]; exact hown') (fun k hk => by
        rcases hblk with h | h
        · rw [h] at hk; exact Or.inl hk
        · rw [h] at hk; injection hk with hk; subst hk; exact Or.inr (by simp)); have e1 := Lib.hid e1; have e2 := Lib.hid e2; have e3 := Lib.hid e3; clear hown' hgrow hblk hmd hb3)
      go_ret2
      exact ⟨by rw [HV.out]; rfl, _, by rw [HV.out]; exact ⟨_, _, e1.out⟩, e2.out, e3.out⟩
end Go.Proofs.Ytcadkaedahoefaa
