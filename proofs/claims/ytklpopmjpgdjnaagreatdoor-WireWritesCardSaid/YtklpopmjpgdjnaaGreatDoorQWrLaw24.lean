/- The law WireWrites, walked. -/
import Derived.Test.YtklpopmjpgdjnaaGreatDoorQGp
import Derived.Test.YtklpopmjpgdjnaaGreatDoorQSame24
set_option linter.unusedVariables false
set_option linter.unusedSimpArgs false
namespace Go.Proofs.YtklpopmjpgdjnaaGreatDoor
open Go.RowKit

theorem wsh_lt (m : Msg) (vn vq : Value) (P : Nat → Prop) (w : World) (hk : m.Ok) (hs : m.Small) (hn : SlAt w P vn (m.names.map .string)) (hq : RecsAt Qd.cells 3 w P vq m.qids) (hT : Tabs w) :
    Calls Tryz.prog 19 #[.agg (m.cells vn vq).toArray] w fun e w' => e = .returned (.string (shapeB m)) ∧ Mod (fun _ => False) w w' := shape24_any m vn vq P w hk hs hn hq hT
set_option maxHeartbeats 4000000 in
set_option maxRecDepth 100000 in
theorem writes_walk (m : Msg) (vn vq : Value) (P : Nat → Prop) (w : World) (hk : m.Ok) (hr : m.Reach) (hn : SlAt w P vn (m.names.map .string)) (hq : RecsAt Qd.cells 3 w P vq m.qids) (hT : Tabs w) :
    Calls Tryz.prog 6 #[.agg (m.cells vn vq).toArray] w fun e w' => e = .returned (.bool true) ∧ Mod (fun _ => False) w w' := by
  obtain ⟨W, hW⟩ : ∃ W, w.alloc (.cells (m.cells vn vq).toArray 33) = W := ⟨_, rfl⟩
  have hb : W.heap[w.heap.size]? = some (msgO m vn vq) := by subst hW; exact new_at _ _
  have m0 : Mod (fun _ => False) w W := by subst hW; exact (Mod.refl _ w).alloc _
  have hrk : ∀ U, Mod (fun _ => False) W U → U.rangeAt w.heap.size 0 (m.cells vn vq) := fun U hU j u hu => by rw [Nat.zero_add, cell_of ((hU.block _ (lt_of hb) (fun x => x)).trans hb), List.getElem?_toArray]; exact hu
  have hTW := hT.mod m0
  have hWk := fun U (hU : Mod (fun _ => False) W U) => works24_any U (hTW.mod hU)
  have hnW := hn.mod m0 (fun _ _ _ x => x)
  have hqW := hq.mod m0 (fun _ _ _ x => x)
  have hL := long_any m vn vq P W hr hnW hqW
  have hr0 := hrk W (Mod.refl _ W)
  have hlen : (m.cells vn vq).length = 36 := rfl
  have M0 := Lib.hid m0
  have HN := Lib.hid hnW
  have HQ := Lib.hid hqW
  have HT := Lib.hid hTW
  clear hn hq hT hb m0 hnW hqW hTW
  go_enter Tryz.func6, Tryz.ntmps6
  cases hlm : longM m with
  | true =>
    rw [hlm] at hL
    go_wp2_with (first
      | refine wpList_load_mid rfl 33 (.tmp 1) rfl w.heap.size 0 rfl (m.cells vn vq) _ hr0 Tryz.underlying33 rfl (by kernel_rfl) ?_
      | (go_at_call 14; refine hL.mono ?_; rintro e w1 ⟨rfl, m1⟩)
      | (go_at_call 8; refine (hWk _ m1).mono ?_; rintro e w2 ⟨rfl, m2⟩))
    go_ret
    exact ⟨rfl, (M0.out.trans m1).trans m2⟩
  | false =>
    rw [hlm] at hL
    have hsm := longM_small hlm
    have hCp := fun U (hU : Mod (fun _ => False) W U) => copied_any m vn vq P U hsm.nl hsm.ql (HN.out.mod hU fun _ _ _ x => x) (HQ.out.mod hU fun _ _ _ x => x)
    have hEn := fun U a b c d e => enc_lt m a b c U hk hsm d e
    have hRe := fun U (hU : Mod (fun _ => False) W U) => renc24_any m vn vq P U hk hsm (HN.out.mod hU fun _ _ _ x => x) (HQ.out.mod hU fun _ _ _ x => x) (HT.out.mod hU)
    rw [encR_eq] at hRe
    have hMy := fun U a b c d e => may_lt m a b c U hk hsm d e
    have hS1 := fun U a b c d e f => wsh_lt m a b c U hk hsm d e f
    have hS2 := fun U (hU : Mod (fun _ => False) W U) => rshape24_any m vn vq P U hk hsm (HN.out.mod hU fun _ _ _ x => x) (HQ.out.mod hU fun _ _ _ x => x) (HT.out.mod hU)
    have hSa := fun U a b c d e (hU : Mod (fun _ => False) W U) => same24_any m a b vn vq c P U hk hsm d e (HN.out.mod hU fun _ _ _ x => x) (HQ.out.mod hU fun _ _ _ x => x)
    generalize (encM m).1 = A at *
    generalize (encM m).2 = er at *
    generalize shapeB m = S at *
    go_upto_region 6 with (first
      | refine wpList_load_mid rfl 33 (.tmp 1) rfl w.heap.size 0 rfl (m.cells vn vq) _ hr0 Tryz.underlying33 rfl (by kernel_rfl) ?_
      | (go_at_call 14; refine hL.mono ?_; rintro e w1 ⟨rfl, m1⟩; have hr1 := hrk _ m1; clear hL hr0)
      | refine wpList_load_mid rfl 33 (.tmp 1) rfl w.heap.size 0 rfl (m.cells vn vq) _ hr1 Tryz.underlying33 rfl (by kernel_rfl) ?_
      | (go_at_call 16; refine (hCp _ m1).mono ?_; rintro e w2 ⟨vn2, vq2, rfl, hn2, hq2, m2⟩; have M2 := Lib.hid (m1.trans m2); clear m1 hr1 m2 hCp; have hx1 : vn2.oneCell' = true := (by obtain ⟨a, c, rfl, _⟩ := hn2.form; rfl); have hx2 : vq2.oneCell' = true := (by obtain ⟨a, c, rfl, _⟩ := hq2.form; rfl))
      | (refine wpl_store_row rfl 33 (.tmp 3) (.tmp 12) rfl rfl w2.heap.size (m.cells vn2 vq2) rfl rfl 33 _ (new_at w2 _) rfl (msg_one _ _ _ hx1 hx2) (by kernel_rfl) ?_; intro V6 hv6 mv6; have g6 : Mod (fun _ => False) w2 V6 := ((Mod.refl (fun _ => False) w2).alloc _).trans' mv6 fun k hk e => (by omega); have M6 := Lib.hid (M2.out.trans g6); have hn6 := hn2.mod g6 fun _ _ _ x => x; have hq6 := hq2.mod g6 fun _ _ _ x => x; have hv6 : V6.heap[w2.heap.size]? = some (msgO m vn2 vq2) := hv6; have hr6 : V6.rangeAt w2.heap.size 0 (m.cells vn2 vq2) := fun j u hu => (by rw [Nat.zero_add, cell_of hv6, List.getElem?_toArray]; exact hu); clear mv6 g6 M2 hn2 hq2)
      | refine wpList_load_mid rfl 33 (.tmp 3) rfl w2.heap.size 0 rfl (m.cells vn2 vq2) _ hr6 Tryz.underlying33 rfl (by kernel_rfl) ?_
      | (go_at_call 15; refine (hEn _ _ _ _ hn6 hq6 (HT.out.mod M6.out)).mono ?_; rintro e w7 ⟨rfl, m7⟩; have M7 := Lib.hid (M6.out.trans m7); have hn7 := hn6.mod m7 fun _ _ _ x => x; have hq7 := hq6.mod m7 fun _ _ _ x => x; have hv7 := (m7.block _ (lt_of hv6) (fun x => x)).trans hv6; have hr7 := hrk _ M7.out; clear hr6 M6 hn6 hq6 hv6 m7 hEn)
      | refine wpList_load_mid rfl 33 (.tmp 1) rfl w.heap.size 0 rfl (m.cells vn vq) _ hr7 Tryz.underlying33 rfl (by kernel_rfl) ?_
      | (go_at_call 18; refine (hRe _ M7.out).mono ?_; rintro e wx ⟨rfl, m8⟩; have MX := Lib.hid (M7.out.trans m8); have hn8 := hn7.mod m8 fun _ _ _ x => x; have hq8 := hq7.mod m8 fun _ _ _ x => x; have hv8 := (m8.block _ (lt_of hv7) (fun x => x)).trans hv7; clear hr7 M7 hn7 hq7 hv7 m8 hRe))
    have hri : ∀ U, Mod (fun _ => False) wx U → U.rangeAt w2.heap.size 0 (m.cells vn2 vq2) := fun U hU j u hu => by rw [Nat.zero_add, cell_of ((hU.block _ (lt_of hv8) (fun x => x)).trans hv8), List.getElem?_toArray]; exact hu
    have hro := fun U (hU : Mod (fun _ => False) wx U) => hrk U (MX.out.trans hU)
    have hMx := fun U (hU : Mod (fun _ => False) wx U) => hMy U _ _ _ (hn8.mod hU fun _ _ _ x => x) (hq8.mod hU fun _ _ _ x => x) ((HT.out.mod MX.out).mod hU)
    have hSx := fun U (hU : Mod (fun _ => False) wx U) => hS1 U _ _ _ (hn8.mod hU fun _ _ _ x => x) (hq8.mod hU fun _ _ _ x => x) ((HT.out.mod MX.out).mod hU)
    have hSy := fun U (hU : Mod (fun _ => False) wx U) => hS2 U (MX.out.trans hU)
    have hSm := fun U (hU : Mod (fun _ => False) wx U) => hSa U _ _ _ (hn8.mod hU fun _ _ _ x => x) (hq8.mod hU fun _ _ _ x => x) (MX.out.trans hU)
    have hWx := fun U (hU : Mod (fun _ => False) wx U) => hWk U (MX.out.trans hU)
    clear hMy hS1 hS2 hSa hWk hn8 hq8 hv8 hx1 hx2 hrk
    refine wp_region_held_drew (S := fun w' => Hid (Mod (fun _ => False) wx w')) (by kernel_rfl) (Lib.hid (Mod.refl (fun _ => False) wx).drew) (fun hHeld => ?_)
    refine wpAnyH_take (i := 0) (v := ?_) rfl (by kernel_rfl) (by kernel_rfl) (by kernel_rfl) (fun _ _ _ h => h) (Or.inl ⟨by rfl, ?_⟩) (by assumption) ?_
    rotate_left
    · intro w hSw; clear hSw; go_simp
      all_goals with_reducible rfl
    try simp only [List.getElem_toArray, List.getElem_cons_succ, List.getElem_cons_zero, Act.put, List.setIfInBounds_toArray, List.set_cons_zero, List.set_cons_succ]
    refine wpAnyH_take (i := 1) (v := ?_) rfl (by kernel_rfl) (by kernel_rfl) (by kernel_rfl) (fun _ _ _ h => h) (Or.inl ⟨by rfl, ?_⟩) (by assumption) ?_
    rotate_left
    · intro w hSw; clear hSw; go_simp
      all_goals with_reducible rfl
    try simp only [List.getElem_toArray, List.getElem_cons_succ, List.getElem_cons_zero, Act.put, List.setIfInBounds_toArray, List.set_cons_zero, List.set_cons_succ]
    refine wpAnyH_take (i := 2) (v := ?_) rfl (by kernel_rfl) (by kernel_rfl) (by kernel_rfl) (fun _ _ _ h => h) (Or.inl ⟨by rfl, ?_⟩) (by assumption) ?_
    rotate_left
    · intro w hSw; clear hSw; go_simp
      all_goals with_reducible rfl
    try simp only [List.getElem_toArray, List.getElem_cons_succ, List.getElem_cons_zero, Act.put, List.setIfInBounds_toArray, List.set_cons_zero, List.set_cons_succ]
    refine wpAnyH_take (i := 3) (v := ?_) rfl (by kernel_rfl) (by kernel_rfl) (by kernel_rfl) (fun _ _ _ h => h) (Or.inl ⟨by rfl, ?_⟩) (by assumption) ?_
    rotate_left
    · intro w hSw; clear hSw; go_simp
      all_goals with_reducible rfl
    try simp only [List.getElem_toArray, List.getElem_cons_succ, List.getElem_cons_zero, Act.put, List.setIfInBounds_toArray, List.set_cons_zero, List.set_cons_succ]
    refine wpAnyH_take (i := 4) (v := ?_) rfl (by kernel_rfl) (by kernel_rfl) (by kernel_rfl) (fun _ _ _ h => h) (Or.inl ⟨by rfl, ?_⟩) (by assumption) ?_
    rotate_left
    · intro w hSw; clear hSw; go_simp
      all_goals with_reducible rfl
    try simp only [List.getElem_toArray, List.getElem_cons_succ, List.getElem_cons_zero, Act.put, List.setIfInBounds_toArray, List.set_cons_zero, List.set_cons_succ]
    refine wpAnyH_take (i := 5) (v := ?_) rfl (by kernel_rfl) (by kernel_rfl) (by kernel_rfl) (fun _ _ _ h => h) (Or.inl ⟨by rfl, ?_⟩) (by assumption) ?_
    rotate_left
    · intro w hSw; clear hSw; go_simp
      all_goals with_reducible rfl
    try simp only [List.getElem_toArray, List.getElem_cons_succ, List.getElem_cons_zero, Act.put, List.setIfInBounds_toArray, List.set_cons_zero, List.set_cons_succ]
    refine wpAnyH_take (i := 6) (v := ?_) rfl (by kernel_rfl) (by kernel_rfl) (by kernel_rfl) (fun _ _ _ h => h) (Or.inl ⟨by rfl, ?_⟩) (by assumption) ?_
    rotate_left
    · intro w hSw; clear hSw; go_simp
      all_goals with_reducible rfl
    try simp only [List.getElem_toArray, List.getElem_cons_succ, List.getElem_cons_zero, Act.put, List.setIfInBounds_toArray, List.set_cons_zero, List.set_cons_succ]
    refine wpAnyH_take (i := 7) (v := ?_) rfl (by kernel_rfl) (by kernel_rfl) (by kernel_rfl) (fun _ _ _ h => h) (Or.inl ⟨by rfl, ?_⟩) (by assumption) ?_
    rotate_left
    · intro w hSw; clear hSw; go_simp
      all_goals with_reducible rfl
    try simp only [List.getElem_toArray, List.getElem_cons_succ, List.getElem_cons_zero, Act.put, List.setIfInBounds_toArray, List.set_cons_zero, List.set_cons_succ]
    refine wpAnyH_take (i := 8) (v := ?_) rfl (by kernel_rfl) (by kernel_rfl) (by kernel_rfl) (fun _ _ _ h => h) (Or.inl ⟨by rfl, ?_⟩) (by assumption) ?_
    rotate_left
    · intro w hSw; clear hSw; go_simp
      all_goals with_reducible rfl
    try simp only [List.getElem_toArray, List.getElem_cons_succ, List.getElem_cons_zero, Act.put, List.setIfInBounds_toArray, List.set_cons_zero, List.set_cons_succ]
    refine wpAnyH_take (i := 9) (v := .agg ((m.cells vn2 vq2)).toArray) rfl (by kernel_rfl) (by kernel_rfl) (by kernel_rfl) (fun _ _ _ h => h) (yieldsIf_load_mid (by rfl) 33 (.tmp 3) rfl w2.heap.size 0 rfl (m.cells vn2 vq2) _ (fun w hSw => hri w hSw.out) Tryz.underlying33 rfl (by kernel_rfl)) (by assumption) ?_
    try simp only [List.getElem_toArray, List.getElem_cons_succ, List.getElem_cons_zero, Act.put, List.setIfInBounds_toArray, List.set_cons_zero, List.set_cons_succ]
    refine wpAnyH_take (i := 11) (v := ?_) rfl (by kernel_rfl) (by kernel_rfl) (by kernel_rfl) (fun _ _ _ h => h) (Or.inl ⟨by rfl, ?_⟩) (by assumption) ?_
    rotate_left
    · intro w hSw; clear hSw; go_simp
      all_goals with_reducible rfl
    try simp only [List.getElem_toArray, List.getElem_cons_succ, List.getElem_cons_zero, Act.put, List.setIfInBounds_toArray, List.set_cons_zero, List.set_cons_succ]
    refine wpAnyH_ready (rs := [10]) (by kernel_rfl) (by simp) ?_
    refine AllReadyH.cons rfl (fun K hK => ?_) AllReadyH.nil
    go_simp
    refine (hMx _ hHeld.out).mono ?_
    rintro e w4 ⟨rfl, m4⟩
    have hNew := Lib.hid (hHeld.out.trans m4)
    clear hHeld
    refine hK.out _ _ hNew (fun hHeld => ?_)
    clear hK K hNew
    try simp only [List.getElem_toArray, List.getElem_cons_succ, List.getElem_cons_zero, Act.put, List.setIfInBounds_toArray, List.set_cons_zero, List.set_cons_succ]
    refine wpAnyH_take (i := 12) (v := ?_) rfl (by kernel_rfl) (by kernel_rfl) (by kernel_rfl) (fun _ _ _ h => h) (Or.inl ⟨by rfl, ?_⟩) (by assumption) ?_
    rotate_left
    · intro w hSw; clear hSw; go_simp
      all_goals with_reducible rfl
    try simp only [List.getElem_toArray, List.getElem_cons_succ, List.getElem_cons_zero, Act.put, List.setIfInBounds_toArray, List.set_cons_zero, List.set_cons_succ]
    refine wpAnyH_take (i := 13) (v := ?_) rfl (by kernel_rfl) (by kernel_rfl) (by kernel_rfl) (fun _ _ _ h => h) (Or.inl ⟨by rfl, ?_⟩) (by assumption) ?_
    rotate_left
    · intro w hSw; clear hSw; go_simp
      all_goals with_reducible rfl
    try simp only [List.getElem_toArray, List.getElem_cons_succ, List.getElem_cons_zero, Act.put, List.setIfInBounds_toArray, List.set_cons_zero, List.set_cons_succ]
    refine wpAnyH_take (i := 14) (v := ?_) rfl (by kernel_rfl) (by kernel_rfl) (by kernel_rfl) (fun _ _ _ h => h) (Or.inl ⟨by rfl, ?_⟩) (by assumption) ?_
    rotate_left
    · intro w hSw; clear hSw; go_simp
      all_goals with_reducible rfl
    try simp only [List.getElem_toArray, List.getElem_cons_succ, List.getElem_cons_zero, Act.put, List.setIfInBounds_toArray, List.set_cons_zero, List.set_cons_succ]
    refine wpAnyH_take (i := 15) (v := .agg ((m.cells vn2 vq2)).toArray) rfl (by kernel_rfl) (by kernel_rfl) (by kernel_rfl) (fun _ _ _ h => h) (yieldsIf_load_mid (by rfl) 33 (.tmp 3) rfl w2.heap.size 0 rfl (m.cells vn2 vq2) _ (fun w hSw => hri w hSw.out) Tryz.underlying33 rfl (by kernel_rfl)) (by assumption) ?_
    try simp only [List.getElem_toArray, List.getElem_cons_succ, List.getElem_cons_zero, Act.put, List.setIfInBounds_toArray, List.set_cons_zero, List.set_cons_succ]
    refine wpAnyH_take (i := 17) (v := .agg ((m.cells vn vq)).toArray) rfl (by kernel_rfl) (by kernel_rfl) (by kernel_rfl) (fun _ _ _ h => h) (yieldsIf_load_mid (by rfl) 33 (.tmp 1) rfl w.heap.size 0 rfl (m.cells vn vq) _ (fun w hSw => hro w hSw.out) Tryz.underlying33 rfl (by kernel_rfl)) (by assumption) ?_
    try simp only [List.getElem_toArray, List.getElem_cons_succ, List.getElem_cons_zero, Act.put, List.setIfInBounds_toArray, List.set_cons_zero, List.set_cons_succ]
    refine wpAnyH_ready (rs := [16]) (by kernel_rfl) (by simp) ?_
    refine AllReadyH.cons rfl (fun K hK => ?_) AllReadyH.nil
    go_simp
    refine (hSx _ hHeld.out).mono ?_
    rintro e w4 ⟨rfl, m4⟩
    have hNew := Lib.hid (hHeld.out.trans m4)
    clear hHeld
    refine hK.out _ _ hNew (fun hHeld => ?_)
    clear hK K hNew
    try simp only [List.getElem_toArray, List.getElem_cons_succ, List.getElem_cons_zero, Act.put, List.setIfInBounds_toArray, List.set_cons_zero, List.set_cons_succ]
    refine wpAnyH_ready (rs := [18]) (by kernel_rfl) (by simp) ?_
    refine AllReadyH.cons rfl (fun K hK => ?_) AllReadyH.nil
    go_simp
    refine (hSy _ hHeld.out).mono ?_
    rintro e w4 ⟨rfl, m4⟩
    have hNew := Lib.hid (hHeld.out.trans m4)
    clear hHeld
    refine hK.out _ _ hNew (fun hHeld => ?_)
    clear hK K hNew
    try simp only [List.getElem_toArray, List.getElem_cons_succ, List.getElem_cons_zero, Act.put, List.setIfInBounds_toArray, List.set_cons_zero, List.set_cons_succ]
    refine wpAnyH_take (i := 19) (v := ?_) rfl (by kernel_rfl) (by kernel_rfl) (by kernel_rfl) (fun _ _ _ h => h) (Or.inl ⟨by rfl, ?_⟩) (by assumption) ?_
    rotate_left
    · intro w hSw; clear hSw; go_simp
      all_goals with_reducible rfl
    try simp only [List.getElem_toArray, List.getElem_cons_succ, List.getElem_cons_zero, Act.put, List.setIfInBounds_toArray, List.set_cons_zero, List.set_cons_succ]
    refine wpAnyH_take (i := 20) (v := ?_) rfl (by kernel_rfl) (by kernel_rfl) (by kernel_rfl) (fun _ _ _ h => h) (Or.inl ⟨by rfl, ?_⟩) (by assumption) ?_
    rotate_left
    · intro w hSw; clear hSw; go_simp
      all_goals with_reducible rfl
    try simp only [List.getElem_toArray, List.getElem_cons_succ, List.getElem_cons_zero, Act.put, List.setIfInBounds_toArray, List.set_cons_zero, List.set_cons_succ]
    refine wpAnyH_take (i := 21) (v := ?_) rfl (by kernel_rfl) (by kernel_rfl) (by kernel_rfl) (fun _ _ _ h => h) (Or.inl ⟨by rfl, ?_⟩) (by assumption) ?_
    rotate_left
    · intro w hSw; clear hSw; go_simp
      all_goals with_reducible rfl
    try simp only [List.getElem_toArray, List.getElem_cons_succ, List.getElem_cons_zero, Act.put, List.setIfInBounds_toArray, List.set_cons_zero, List.set_cons_succ]
    refine wpAnyH_take (i := 22) (v := .agg ((m.cells vn2 vq2)).toArray) rfl (by kernel_rfl) (by kernel_rfl) (by kernel_rfl) (fun _ _ _ h => h) (yieldsIf_load_mid (by rfl) 33 (.tmp 3) rfl w2.heap.size 0 rfl (m.cells vn2 vq2) _ (fun w hSw => hri w hSw.out) Tryz.underlying33 rfl (by kernel_rfl)) (by assumption) ?_
    try simp only [List.getElem_toArray, List.getElem_cons_succ, List.getElem_cons_zero, Act.put, List.setIfInBounds_toArray, List.set_cons_zero, List.set_cons_succ]
    refine wpAnyH_take (i := 23) (v := .agg ((m.cells vn vq)).toArray) rfl (by kernel_rfl) (by kernel_rfl) (by kernel_rfl) (fun _ _ _ h => h) (yieldsIf_load_mid (by rfl) 33 (.tmp 1) rfl w.heap.size 0 rfl (m.cells vn vq) _ (fun w hSw => hro w hSw.out) Tryz.underlying33 rfl (by kernel_rfl)) (by assumption) ?_
    try simp only [List.getElem_toArray, List.getElem_cons_succ, List.getElem_cons_zero, Act.put, List.setIfInBounds_toArray, List.set_cons_zero, List.set_cons_succ]
    refine wpAnyH_ready (rs := [24]) (by kernel_rfl) (by simp) ?_
    refine AllReadyH.cons rfl (fun K hK => ?_) AllReadyH.nil
    go_simp
    refine (hSm _ hHeld.out).mono ?_
    rintro e w4 ⟨rfl, m4⟩
    have hNew := Lib.hid (hHeld.out.trans m4)
    clear hHeld
    refine hK.out _ _ hNew (fun hHeld => ?_)
    clear hK K hNew
    try simp only [List.getElem_toArray, List.getElem_cons_succ, List.getElem_cons_zero, Act.put, List.setIfInBounds_toArray, List.set_cons_zero, List.set_cons_succ]
    refine wpAnyH_take (i := 25) (v := ?_) rfl (by kernel_rfl) (by kernel_rfl) (by kernel_rfl) (fun _ _ _ h => h) (Or.inl ⟨by rfl, ?_⟩) (by assumption) ?_
    rotate_left
    · intro w hSw; clear hSw; go_simp
      all_goals with_reducible rfl
    try simp only [List.getElem_toArray, List.getElem_cons_succ, List.getElem_cons_zero, Act.put, List.setIfInBounds_toArray, List.set_cons_zero, List.set_cons_succ]
    refine wpAnyH_take (i := 26) (v := ?_) rfl (by kernel_rfl) (by kernel_rfl) (by kernel_rfl) (fun _ _ _ h => h) (Or.inl ⟨by rfl, ?_⟩) (by assumption) ?_
    rotate_left
    · intro w hSw; clear hSw; go_simp
      all_goals with_reducible rfl
    try simp only [List.getElem_toArray, List.getElem_cons_succ, List.getElem_cons_zero, Act.put, List.setIfInBounds_toArray, List.set_cons_zero, List.set_cons_succ]
    refine wpAnyH_ready (rs := [27]) (by kernel_rfl) (by simp) ?_
    refine AllReadyH.cons rfl (fun K hK => ?_) AllReadyH.nil
    go_simp
    refine (hWx _ hHeld.out).mono ?_
    rintro e w4 ⟨rfl, m4⟩
    have hNew := Lib.hid (hHeld.out.trans m4)
    clear hHeld
    refine hK.out _ _ hNew (fun hHeld => ?_)
    clear hK K hNew
    try simp only [List.getElem_toArray, List.getElem_cons_succ, List.getElem_cons_zero, Act.put, List.setIfInBounds_toArray, List.set_cons_zero, List.set_cons_succ]
    refine wpAnyH_take (i := 28) (v := ?_) rfl (by kernel_rfl) (by kernel_rfl) (by kernel_rfl) (fun _ _ _ h => h) (Or.inl ⟨by rfl, ?_⟩) (by assumption) ?_
    rotate_left
    · intro w hSw; clear hSw; go_simp
      all_goals with_reducible rfl
    try simp only [List.getElem_toArray, List.getElem_cons_succ, List.getElem_cons_zero, Act.put, List.setIfInBounds_toArray, List.set_cons_zero, List.set_cons_succ]
    refine wpAnyH_take (i := 29) (v := ?_) rfl (by kernel_rfl) (by kernel_rfl) (by kernel_rfl) (fun _ _ _ h => h) (Or.inl ⟨by rfl, ?_⟩) (by assumption) ?_
    rotate_left
    · intro w hSw; clear hSw; go_simp
      all_goals with_reducible rfl
    try simp only [List.getElem_toArray, List.getElem_cons_succ, List.getElem_cons_zero, Act.put, List.setIfInBounds_toArray, List.set_cons_zero, List.set_cons_succ]
    refine wpAnyH_done (by kernel_rfl) ?_ _
    go_wp2
    go_ret
    exact ⟨rfl, (M0.out.trans MX.out).trans hHeld.out⟩
end Go.Proofs.YtklpopmjpgdjnaaGreatDoor
