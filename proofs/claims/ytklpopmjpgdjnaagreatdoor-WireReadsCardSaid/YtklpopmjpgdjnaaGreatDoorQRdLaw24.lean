/- The law WireReads, walked. -/
import Derived.Test.YtklpopmjpgdjnaaGreatDoorQRDec24
import Derived.Test.YtklpopmjpgdjnaaGreatDoorQRCut24
import Derived.Test.YtklpopmjpgdjnaaGreatDoorQSame24
import Derived.Test.YtklpopmjpgdjnaaGreatDoorQGi
set_option linter.unusedVariables false
set_option linter.unusedSimpArgs false
namespace Go.Proofs.YtklpopmjpgdjnaaGreatDoor
open Go.RowKit

theorem docM_zero (s : ByteArray) : (docM s).2 = 0 ∨ (docM s).1 = Msg.zero := by
  unfold docM docT docE
  repeat' split
  all_goals first | exact .inr rfl | exact .inl rfl
theorem decM_fine (s : ByteArray) : (decM s).1.Ok ∧ (decM s).1.Small := by
  by_cases h : (decM s).2 = 0
  · obtain ⟨_, h1, h2⟩ := enc_decM s h
    exact ⟨h1, h2⟩
  · have : (decM s).1 = Msg.zero := by
      have hd := docM_zero s
      rw [doc_is] at hd
      exact hd.resolve_left h
    rw [this]
    exact ⟨zero_ok 0 0 (by decide) (by decide), zero_small 0 0⟩
set_option maxHeartbeats 4000000 in
set_option maxRecDepth 100000 in
theorem reads_walk (s : ByteArray) (most : Nat) (w : World) (hs : s.size ≤ maxLen) (hm : most < 4294967296) (hT : Tabs w) :
    Calls Tryz.prog 3 #[.string s, .int .u32 most] w fun e w' => e = .returned (.bool true) ∧ Mod (fun _ => False) w w' := by
  have hWk := fun U (hU : Mod (fun _ => False) w U) => works24_any U (hT.mod hU)
  by_cases h6 : 65536 < s.size
  · have t6 : decide (65536 < (s.size : Int)) = true := by simp; omega
    go_enter Tryz.func3, Tryz.ntmps3
    go_wp2_with fail
    refine (hWk _ (Mod.refl _ _)).mono ?_
    rintro e w1 ⟨rfl, m1⟩
    go_wp2
    go_ret
    exact ⟨rfl, m1⟩
  have t6 : decide (65536 < (s.size : Int)) = false := by simp; omega
  have hD1 := dec24_any s w hs hT
  have hD2 := fun U (hU : Mod (fun _ => False) w U) => rdec24_any s U (by omega) (hT.mod hU)
  have hC1 := fun U => cut_any s most U hs hm
  have hC2 := fun U => rcut_any s most U (by omega) hm
  obtain ⟨hxk, hxs⟩ := decM_fine s
  generalize (decM s).1 = x at *
  generalize (decM s).2 = f at *
  generalize cutM s most = C at *
  obtain ⟨a, b, g⟩ := C
  simp only at hC1 hC2
  have qf : (f == f) = true := by simp
  have qg : (g == g) = true := by simp
  have qa : (a.toList == a.toList) = true := by simp
  have qb : (b.toList == b.toList) = true := by simp
  go_enter Tryz.func3, Tryz.ntmps3
  go_wp2_with fail
  refine hD1.mono ?_
  rintro e w1 ⟨vn, vq, rfl, hn1, hq1, m1⟩
  have hx1 : vn.oneCell' = true := by obtain ⟨a, c, rfl, _⟩ := hn1.form; rfl
  have hx2 : vq.oneCell' = true := by obtain ⟨a, c, rfl, _⟩ := hq1.form; rfl
  have hlen : (x.cells vn vq).length = 36 := rfl
  clear hD1
  go_wp2_with (refine wpl_store_row rfl 33 (.tmp 5) (.tmp 22) rfl rfl w1.heap.size (x.cells vn vq) rfl rfl 33 _ (new_at w1 _) rfl (msg_one _ _ _ hx1 hx2) (by kernel_rfl) ?_; intro V2 hv2 mv2; have g2 : Mod (fun _ => False) w1 V2 := ((Mod.refl (fun _ => False) w1).alloc _).trans' mv2 fun k hk e => (by omega); have M2 := Lib.hid (m1.trans g2); have HN2 := Lib.hid (hn1.mod g2 fun _ _ _ x => x); have HQ2 := Lib.hid (hq1.mod g2 fun _ _ _ x => x); have HV2 := Lib.hid hv2; clear mv2 g2 m1 hn1 hq1 hv2)
  refine (hD2 _ M2.out).mono ?_
  rintro e w3 ⟨vy, vz, rfl, hn3, hq3, m3⟩
  have hx3 : vy.oneCell' = true := by obtain ⟨a, c, rfl, _⟩ := hn3.form; rfl
  have hx4 : vz.oneCell' = true := by obtain ⟨a, c, rfl, _⟩ := hq3.form; rfl
  have hlen2 : (x.cells vy vz).length = 36 := rfl
  have M3 := Lib.hid (M2.out.trans m3)
  have HN3 := Lib.hid (HN2.out.mod m3 fun _ _ _ x => x)
  have HQ3 := Lib.hid (HQ2.out.mod m3 fun _ _ _ x => x)
  have HV3 := Lib.hid ((m3.block _ (lt_of HV2.out) (fun x => x)).trans HV2.out)
  obtain ⟨b1, hb1⟩ : ∃ b1, w1.heap.size = b1 := ⟨_, rfl⟩
  rw [hb1] at HV3 ⊢
  clear hD2 M2 HN2 HQ2 HV2 m3
  go_wp2_with (refine wpl_store_row rfl 33 (.tmp 7) (.tmp 27) rfl rfl w3.heap.size (x.cells vy vz) rfl rfl 33 _ (new_at w3 _) rfl (msg_one _ _ _ hx3 hx4) (by kernel_rfl) ?_; intro V4 hv4 mv4; have g4 : Mod (fun _ => False) w3 V4 := ((Mod.refl (fun _ => False) w3).alloc _).trans' mv4 fun k hk e => (by omega); have M4 := Lib.hid (M3.out.trans g4); have HA4 := Lib.hid (HN3.out.mod g4 fun _ _ _ x => x); have HB4 := Lib.hid (HQ3.out.mod g4 fun _ _ _ x => x); have HN4 := Lib.hid (hn3.mod g4 fun _ _ _ x => x); have HQ4 := Lib.hid (hq3.mod g4 fun _ _ _ x => x); have HX4 := Lib.hid ((g4.block _ (lt_of HV3.out) (fun x => x)).trans HV3.out); have HY4 := Lib.hid hv4; clear mv4 g4 M3 hn3 hq3 hv4 HN3 HQ3 HV3)
  refine (hC1 _).mono ?_
  rintro e w5 ⟨rfl, m5⟩
  clear hC1
  go_wp2_with fail
  refine (hC2 _).mono ?_
  rintro e w6 ⟨rfl, m6⟩
  clear hC2
  have m56 := m5.trans m6
  have M6 := Lib.hid (M4.out.trans m56)
  have HA6 := HA4.out.mod m56 fun _ _ _ x => x
  have HB6 := HB4.out.mod m56 fun _ _ _ x => x
  have HN6 := HN4.out.mod m56 fun _ _ _ x => x
  have HQ6 := HQ4.out.mod m56 fun _ _ _ x => x
  have hX6 := (m56.block _ (lt_of HX4.out) (fun x => x)).trans HX4.out
  have hY6 := (m56.block _ (lt_of HY4.out) (fun x => x)).trans HY4.out
  have hr5 : w6.rangeAt b1 0 (x.cells vn vq) := fun j u hu => by rw [Nat.zero_add, cell_of hX6, List.getElem?_toArray]; exact hu
  have hr7 : w6.rangeAt w3.heap.size 0 (x.cells vy vz) := fun j u hu => by rw [Nat.zero_add, cell_of hY6, List.getElem?_toArray]; exact hu
  have hSm := same24_any x vn vq vy vz _ _ w6 hxk hxs HA6 HB6 HN6 HQ6
  clear m5 m6 m56 M4 HA4 HB4 HN4 HQ4 HX4 HY4 HA6 HB6 HN6 HQ6 hX6 hY6
  go_wp2_with (first
    | refine wpList_load_guard 33 (.tmp 5) rfl rfl b1 0 rfl (x.cells vn vq) _ hr5 Tryz.underlying33 rfl (by kernel_rfl) ?_
    | refine wpList_load_guard 33 (.tmp 7) rfl rfl w3.heap.size 0 rfl (x.cells vy vz) _ hr7 Tryz.underlying33 rfl (by kernel_rfl) ?_
    | (go_at_call 13; refine hSm.mono ?_; rintro e w7 ⟨rfl, m7⟩; have M7 := Lib.hid (M6.out.trans m7); clear hSm)
    | (go_at_call 8; refine (hWk _ M7.out).mono ?_; rintro e w8 ⟨rfl, m8⟩))
  go_ret
  exact ⟨rfl, M7.out.trans m8⟩
end Go.Proofs.YtklpopmjpgdjnaaGreatDoor
