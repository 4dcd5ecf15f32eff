/- The law WireBack, walked. -/
import Derived.Test.YtklpopmjpgdjnaaGreatDoorQGi
import Derived.Test.YtklpopmjpgdjnaaGreatDoorQLawLong
set_option linter.unusedVariables false
set_option linter.unusedSimpArgs false
namespace Go.Proofs.YtklpopmjpgdjnaaGreatDoor
open Go.RowKit

theorem RecsAt.lt' {α : Type} {cs : α → List Value} {sz : Nat} {w : World} {P : Nat → Prop} {v : Value} {l : List α} (h : RecsAt cs sz w P v l) : RecsAt cs sz w (fun g => P g ∧ g < w.heap.size) v l := by
  rcases h with h | ⟨g, off, cap, h1, h2, h3, h4, h5⟩
  · exact .inl h
  · exact .inr ⟨g, off, cap, h1, ⟨h2, h3⟩, h3, h4, h5⟩
theorem enc_lt (m : Msg) (vn vq : Value) (P : Nat → Prop) (w : World) (hk : m.Ok) (hs : m.Small) (hn : SlAt w P vn (m.names.map .string)) (hq : RecsAt Qd.cells 3 w P vq m.qids) (hT : Tabs w) :
    Calls Tryz.prog 15 #[.agg (m.cells vn vq).toArray] w fun e w' => e = .returned (.tuple #[.string (encM m).1, .int .i64 (encM m).2]) ∧ Mod (fun _ => False) w w' :=
  encode_any m vn vq _ w hk hs hn.lt' hq.lt' (fun _ h => h.2) hT
theorem may_lt (m : Msg) (vn vq : Value) (P : Nat → Prop) (w : World) (hk : m.Ok) (hs : m.Small) (hn : SlAt w P vn (m.names.map .string)) (hq : RecsAt Qd.cells 3 w P vq m.qids) (hT : Tabs w) :
    Calls Tryz.prog 17 #[.agg (m.cells vn vq).toArray] w fun e w' => e = .returned (.int .i64 (encM m).2) ∧ Mod (fun _ => False) w w' :=
  may_any m vn vq _ w hk hs hn.lt' hq.lt' (fun _ h => h.2) hT
theorem encM_size (m : Msg) : (encM m).1.size ≤ 8192 := by
  by_cases h : (encM m).2 = 0
  · obtain ⟨l, _, _, _, _, hl, hE⟩ := encM_ok h
    rw [hE]
    show (bs _).size ≤ 8192
    rw [bs_size]
    simp only [List.length_append, leBytes_length]
    omega
  · have : (encM m).1 = ByteArray.empty := by
      unfold encM at h ⊢
      split at h
      · rfl
      · rename_i l hf
        split at h
        · rw [if_pos (by assumption)]
        · rw [if_neg (by assumption)]
          split at h
          · rw [if_pos (by assumption)]
          · rw [if_neg (by assumption)]
            split at h
            · rw [if_pos (by assumption)]
            · exact absurd rfl h
    rw [this]
    exact Nat.zero_le _
set_option maxHeartbeats 4000000 in
set_option maxRecDepth 100000 in
theorem back_walk (m : Msg) (vn vq : Value) (s : ByteArray) (P : Nat → Prop) (w : World) (hk : m.Ok) (hr : m.Reach) (hs : s.size ≤ maxLen) (hn : SlAt w P vn (m.names.map .string)) (hq : RecsAt Qd.cells 3 w P vq m.qids) (hT : Tabs w) :
    Calls Tryz.prog 4 #[.agg (m.cells vn vq).toArray, .string s] w fun e w' => e = .returned (.bool true) ∧ Mod (fun _ => False) w w' := by
  obtain ⟨W, hW⟩ : ∃ W, w.alloc (.cells (m.cells vn vq).toArray 33) = W := ⟨_, rfl⟩
  have hb : W.heap[w.heap.size]? = some (msgO m vn vq) := by subst hW; exact new_at _ _
  have m0 : Mod (fun _ => False) w W := by subst hW; exact (Mod.refl _ w).alloc _
  have hrk : ∀ U, Mod (fun _ => False) W U → U.rangeAt w.heap.size 0 (m.cells vn vq) := fun U hU j u hu => by rw [Nat.zero_add, cell_of ((hU.block _ (lt_of hb) (fun x => x)).trans hb), List.getElem?_toArray]; exact hu
  have hTW := hT.mod m0
  have hWk := fun U (hU : Mod (fun _ => False) W U) => works24_any U (hTW.mod hU)
  have hnW := hn.mod m0 (fun _ _ _ x => x)
  have hqW := hq.mod m0 (fun _ _ _ x => x)
  have hL := long_any m vn vq P W hr hnW hqW
  have hr0 := hrk W (Mod.refl _ W)
  have hlen : (m.cells vn vq).length = 36 := rfl
  have M0 := Lib.hid m0
  have HN := Lib.hid hnW
  have HQ := Lib.hid hqW
  have HT := Lib.hid hTW
  clear hn hq hT hb m0 hnW hqW hTW
  go_enter Tryz.func4, Tryz.ntmps4
  cases hlm : longM m with
  | true =>
    rw [hlm] at hL
    go_wp2_with (first
      | refine wpList_load_mid rfl 33 (.tmp 2) rfl w.heap.size 0 rfl (m.cells vn vq) _ hr0 Tryz.underlying33 rfl (by kernel_rfl) ?_
      | (go_at_call 14; refine hL.mono ?_; rintro e w1 ⟨rfl, m1⟩)
      | (go_at_call 8; refine (hWk _ m1).mono ?_; rintro e w2 ⟨rfl, m2⟩))
    go_ret
    exact ⟨rfl, (M0.out.trans m1).trans m2⟩
  | false =>
    rw [hlm] at hL
    have hsm := longM_small hlm
    by_cases h6 : 65536 < s.size
    · have t6 : decide (65536 < (s.size : Int)) = true := by simp; omega
      go_wp2_with (first
        | refine wpList_load_mid rfl 33 (.tmp 2) rfl w.heap.size 0 rfl (m.cells vn vq) _ hr0 Tryz.underlying33 rfl (by kernel_rfl) ?_
        | (go_at_call 14; refine hL.mono ?_; rintro e w1 ⟨rfl, m1⟩)
        | (go_at_call 8; refine (hWk _ m1).mono ?_; rintro e w2 ⟨rfl, m2⟩))
      go_ret
      exact ⟨rfl, (M0.out.trans m1).trans m2⟩
    · have t6 : decide (65536 < (s.size : Int)) = false := by simp; omega
      have hCp := fun U (hU : Mod (fun _ => False) W U) => copied_any m vn vq P U hsm.nl hsm.ql (HN.out.mod hU fun _ _ _ x => x) (HQ.out.mod hU fun _ _ _ x => x)
      have hEn := fun U a b c d e => enc_lt m a b c U hk hsm d e
      have hMy := fun U a b c d e => may_lt m a b c U hk hsm d e
      have hDs := fun U hU => dec24_any s U hs hU
      have hED := enc_decM s
      have hsz := encM_size m
      have hDA := dec_encM m hk (by have := hsm.data; omega)
      generalize (decM s).1 = x at *
      generalize (decM s).2 = f at *
      have hDa := fun U hU => dec24_any (encM m).1 U (by show _ ≤ 9223372036854775807; omega) hU
      by_cases he : (encM m).2 = 0
      · have q1 : ((encM m).2 == 0) = true := by simp [he]
        rw [hDA he] at hDa
        clear hDA he
        generalize (encM m).1 = a at *
        generalize (encM m).2 = er at *
        go_wp2_with (first
          | refine wpList_load_mid rfl 33 (.tmp 2) rfl w.heap.size 0 rfl (m.cells vn vq) _ hr0 Tryz.underlying33 rfl (by kernel_rfl) ?_
          | (go_at_call 14; refine hL.mono ?_; rintro e w1 ⟨rfl, m1⟩; have hr1 := hrk _ m1; clear hL hr0)
          | refine wpList_load_mid rfl 33 (.tmp 2) rfl w.heap.size 0 rfl (m.cells vn vq) _ hr1 Tryz.underlying33 rfl (by kernel_rfl) ?_
          | (go_at_call 16; refine (hCp _ m1).mono ?_; rintro e w2 ⟨vn2, vq2, rfl, hn2, hq2, m2⟩; have M2 := Lib.hid (m1.trans m2); clear m1 hr1 m2)
          | (go_at_call 15; refine (hEn _ _ _ _ hn2 hq2 (HT.out.mod M2.out)).mono ?_; rintro e w3 ⟨rfl, m3⟩; have M3 := M2.out.trans m3; have hr3 := hrk _ M3; clear M2 m3 hn2 hq2)
          | refine wpList_load_mid rfl 33 (.tmp 2) rfl w.heap.size 0 rfl (m.cells vn vq) _ hr3 Tryz.underlying33 rfl (by kernel_rfl) ?_
          | (go_at_call 16; refine (hCp _ M3).mono ?_; rintro e w4 ⟨vn4, vq4, rfl, hn4, hq4, m4⟩; have M4 := Lib.hid (M3.trans m4); clear M3 hr3 m4)
          | (go_at_call 17; refine (hMy _ _ _ _ hn4 hq4 (HT.out.mod M4.out)).mono ?_; rintro e w5 ⟨rfl, m5⟩; have M5 := Lib.hid (M4.out.trans m5); clear M4 m5 hn4 hq4 hEn hMy))
        refine (hDa _ (HT.out.mod M5.out)).mono ?_
        rintro e w6 ⟨vx, vy, rfl, hn6, hq6, m6⟩
        have hx1 : vx.oneCell' = true := by obtain ⟨a, c, rfl, _⟩ := hn6.form; rfl
        have hx2 : vy.oneCell' = true := by obtain ⟨a, c, rfl, _⟩ := hq6.form; rfl
        have hml : (m.cells vx vy).length = 36 := rfl
        have M6 := Lib.hid (M5.out.trans m6)
        clear m6 hDa M5
        go_wp2_with (first
          | (refine wpl_store_row rfl 33 (.tmp 7) (.tmp 39) rfl rfl w6.heap.size (m.cells vx vy) rfl rfl 33 _ (new_at w6 _) rfl (msg_one _ _ _ hx1 hx2) (by kernel_rfl) ?_; intro V6 hv6 mv6; have g6 : Mod (fun _ => False) w6 V6 := ((Mod.refl (fun _ => False) w6).alloc _).trans' mv6 fun k hk e => (by omega); have M7 := Lib.hid (M6.out.trans g6); have hn7 := hn6.mod g6 fun _ _ _ x => x; have hq7 := hq6.mod g6 fun _ _ _ x => x; have hr7 : V6.rangeAt w6.heap.size 0 (m.cells vx vy) := fun j u hu => (by rw [Nat.zero_add, cell_of hv6, List.getElem?_toArray]; exact hu); have hs7 := hrk _ M7.out; clear hv6 mv6 g6 M6 hn6 hq6)
          | refine wpList_load_guard 33 (.tmp 7) rfl rfl w6.heap.size 0 rfl (m.cells vx vy) _ hr7 Tryz.underlying33 rfl (by kernel_rfl) ?_
          | refine wpList_load_guard 33 (.tmp 2) rfl rfl w.heap.size 0 rfl (m.cells vn vq) _ hs7 Tryz.underlying33 rfl (by kernel_rfl) ?_
          | (go_at_call 13; refine (same24_any m _ _ _ _ _ _ _ hk hsm hn7 hq7 (HN.out.mod M7.out fun _ _ _ x => x) (HQ.out.mod M7.out fun _ _ _ x => x)).mono ?_; rintro e w7 ⟨rfl, m7⟩; have MT := Lib.hid (M7.out.trans m7); clear M7 m7 hr7 hs7 hn7 hq7))
        refine (hDs _ (HT.out.mod (MT).out)).mono ?_
        rintro e w8 ⟨vz, vt, rfl, hn8, hq8, m8⟩
        have hz1 : vz.oneCell' = true := by obtain ⟨a, c, rfl, _⟩ := hn8.form; rfl
        have hz2 : vt.oneCell' = true := by obtain ⟨a, c, rfl, _⟩ := hq8.form; rfl
        have hxl : (x.cells vz vt).length = 36 := rfl
        have M8 := Lib.hid ((MT).out.trans m8)
        clear m8 hDs
        by_cases hf : f = 0
        · have q2 : (f == 0) = true := by simp [hf]
          obtain ⟨hex, hxk, hxs⟩ := hED hf
          clear hf hED
          go_wp2_with (first
            | (refine wpl_store_row rfl 33 (.tmp 9) (.tmp 52) rfl rfl w8.heap.size (x.cells vz vt) rfl rfl 33 _ (new_at w8 _) rfl (msg_one _ _ _ hz1 hz2) (by kernel_rfl) ?_; intro V8 hv8 mv8; have g8 : Mod (fun _ => False) w8 V8 := ((Mod.refl (fun _ => False) w8).alloc _).trans' mv8 fun k hk e => (by omega); have M9 := Lib.hid (M8.out.trans g8); have hn9 := hn8.mod g8 fun _ _ _ x => x; have hq9 := hq8.mod g8 fun _ _ _ x => x; have hr9 : V8.rangeAt w8.heap.size 0 (x.cells vz vt) := fun j u hu => (by rw [Nat.zero_add, cell_of hv8, List.getElem?_toArray]; exact hu); clear hv8 mv8 g8 M8 hn8 hq8)
            | refine wpList_load_mid rfl 33 (.tmp 9) rfl w8.heap.size 0 rfl (x.cells vz vt) _ hr9 Tryz.underlying33 rfl (by kernel_rfl) ?_
            | (go_at_call 15; refine (enc_lt x _ _ _ _ hxk hxs hn9 hq9 (HT.out.mod M9.out)).mono ?_; rw [hex]; rintro e w10 ⟨rfl, m10⟩; have M10 := Lib.hid (M9.out.trans m10); clear M9 m10 hr9 hn9 hq9)
            | (go_at_call 8; refine (hWk _ M10.out).mono ?_; rintro e w11 ⟨rfl, m11⟩))
          go_ret
          exact ⟨rfl, (M0.out.trans M10.out).trans m11⟩
        · have q2 : (f == 0) = false := by simp [hf]
          clear hf hED
          go_wp2_with (first
            | (refine wpl_store_row rfl 33 (.tmp 9) (.tmp 52) rfl rfl w8.heap.size (x.cells vz vt) rfl rfl 33 _ (new_at w8 _) rfl (msg_one _ _ _ hz1 hz2) (by kernel_rfl) ?_; intro V8 hv8 mv8; have g8 : Mod (fun _ => False) w8 V8 := ((Mod.refl (fun _ => False) w8).alloc _).trans' mv8 fun k hk e => (by omega); have M9 := Lib.hid (M8.out.trans g8); clear hv8 mv8 g8 M8 hn8 hq8)
            | (go_at_call 8; refine (hWk _ M9.out).mono ?_; rintro e w11 ⟨rfl, m11⟩))
          go_ret
          exact ⟨rfl, (M0.out.trans M9.out).trans m11⟩
      · have q1 : ((encM m).2 == 0) = false := by simp [he]
        clear hDA he hDa
        generalize (encM m).1 = a at *
        generalize (encM m).2 = er at *
        go_wp2_with (first
          | refine wpList_load_mid rfl 33 (.tmp 2) rfl w.heap.size 0 rfl (m.cells vn vq) _ hr0 Tryz.underlying33 rfl (by kernel_rfl) ?_
          | (go_at_call 14; refine hL.mono ?_; rintro e w1 ⟨rfl, m1⟩; have hr1 := hrk _ m1; clear hL hr0)
          | refine wpList_load_mid rfl 33 (.tmp 2) rfl w.heap.size 0 rfl (m.cells vn vq) _ hr1 Tryz.underlying33 rfl (by kernel_rfl) ?_
          | (go_at_call 16; refine (hCp _ m1).mono ?_; rintro e w2 ⟨vn2, vq2, rfl, hn2, hq2, m2⟩; have M2 := Lib.hid (m1.trans m2); clear m1 hr1 m2)
          | (go_at_call 15; refine (hEn _ _ _ _ hn2 hq2 (HT.out.mod M2.out)).mono ?_; rintro e w3 ⟨rfl, m3⟩; have M3 := M2.out.trans m3; have hr3 := hrk _ M3; clear M2 m3 hn2 hq2)
          | refine wpList_load_mid rfl 33 (.tmp 2) rfl w.heap.size 0 rfl (m.cells vn vq) _ hr3 Tryz.underlying33 rfl (by kernel_rfl) ?_
          | (go_at_call 16; refine (hCp _ M3).mono ?_; rintro e w4 ⟨vn4, vq4, rfl, hn4, hq4, m4⟩; have M4 := Lib.hid (M3.trans m4); clear M3 hr3 m4)
          | (go_at_call 17; refine (hMy _ _ _ _ hn4 hq4 (HT.out.mod M4.out)).mono ?_; rintro e w5 ⟨rfl, m5⟩; have M5 := Lib.hid (M4.out.trans m5); clear M4 m5 hn4 hq4 hEn hMy))
        refine (hDs _ (HT.out.mod (M5).out)).mono ?_
        rintro e w8 ⟨vz, vt, rfl, hn8, hq8, m8⟩
        have hz1 : vz.oneCell' = true := by obtain ⟨a, c, rfl, _⟩ := hn8.form; rfl
        have hz2 : vt.oneCell' = true := by obtain ⟨a, c, rfl, _⟩ := hq8.form; rfl
        have hxl : (x.cells vz vt).length = 36 := rfl
        have M8 := Lib.hid ((M5).out.trans m8)
        clear m8 hDs
        by_cases hf : f = 0
        · have q2 : (f == 0) = true := by simp [hf]
          obtain ⟨hex, hxk, hxs⟩ := hED hf
          clear hf hED
          go_wp2_with (first
            | (refine wpl_store_row rfl 33 (.tmp 9) (.tmp 52) rfl rfl w8.heap.size (x.cells vz vt) rfl rfl 33 _ (new_at w8 _) rfl (msg_one _ _ _ hz1 hz2) (by kernel_rfl) ?_; intro V8 hv8 mv8; have g8 : Mod (fun _ => False) w8 V8 := ((Mod.refl (fun _ => False) w8).alloc _).trans' mv8 fun k hk e => (by omega); have M9 := Lib.hid (M8.out.trans g8); have hn9 := hn8.mod g8 fun _ _ _ x => x; have hq9 := hq8.mod g8 fun _ _ _ x => x; have hr9 : V8.rangeAt w8.heap.size 0 (x.cells vz vt) := fun j u hu => (by rw [Nat.zero_add, cell_of hv8, List.getElem?_toArray]; exact hu); clear hv8 mv8 g8 M8 hn8 hq8)
            | refine wpList_load_mid rfl 33 (.tmp 9) rfl w8.heap.size 0 rfl (x.cells vz vt) _ hr9 Tryz.underlying33 rfl (by kernel_rfl) ?_
            | (go_at_call 15; refine (enc_lt x _ _ _ _ hxk hxs hn9 hq9 (HT.out.mod M9.out)).mono ?_; rw [hex]; rintro e w10 ⟨rfl, m10⟩; have M10 := Lib.hid (M9.out.trans m10); clear M9 m10 hr9 hn9 hq9)
            | (go_at_call 8; refine (hWk _ M10.out).mono ?_; rintro e w11 ⟨rfl, m11⟩))
          go_ret
          exact ⟨rfl, (M0.out.trans M10.out).trans m11⟩
        · have q2 : (f == 0) = false := by simp [hf]
          clear hf hED
          go_wp2_with (first
            | (refine wpl_store_row rfl 33 (.tmp 9) (.tmp 52) rfl rfl w8.heap.size (x.cells vz vt) rfl rfl 33 _ (new_at w8 _) rfl (msg_one _ _ _ hz1 hz2) (by kernel_rfl) ?_; intro V8 hv8 mv8; have g8 : Mod (fun _ => False) w8 V8 := ((Mod.refl (fun _ => False) w8).alloc _).trans' mv8 fun k hk e => (by omega); have M9 := Lib.hid (M8.out.trans g8); clear hv8 mv8 g8 M8 hn8 hq8)
            | (go_at_call 8; refine (hWk _ M9.out).mono ?_; rintro e w11 ⟨rfl, m11⟩))
          go_ret
          exact ⟨rfl, (M0.out.trans M9.out).trans m11⟩
end Go.Proofs.YtklpopmjpgdjnaaGreatDoor
