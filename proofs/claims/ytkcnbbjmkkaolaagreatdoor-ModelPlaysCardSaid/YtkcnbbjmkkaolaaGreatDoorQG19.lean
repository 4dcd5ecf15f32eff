/- The law ModelPlays, walked. -/
import Derived.Test.YtkcnbbjmkkaolaaGreatDoorQG18
import Derived.Test.YtkcnbbjmkkaolaaGreatDoorQG00
set_option linter.unusedVariables false
set_option linter.unusedSimpArgs false
namespace Go.Proofs.YtkcnbbjmkkaolaaGreatDoor
open Go.RowKit

set_option maxHeartbeats 8000000 in
set_option maxRecDepth 100000 in
theorem plays_walk (owner : ByteArray) (now : Nat) (v : Value) (l : List SpM) (W : World) (hv : RecsAt SpM.cells 23 W (fun _ => True) v l) (hok : ∀ s ∈ l, s.Ok) (hrc : ∀ s ∈ l, s.Rc) (hlen : l.length ≤ 140737488355328) (hos : owner.size ≤ 9223372036854775807) (hnow : now < 4294967296) (hT : Tabs W) :
    Calls Tryz.prog 3 #[.string owner, .int .u32 now, v] W fun e w' => e = .returned (.bool true) ∧ Mod (fun _ => False) W w' := by
  have hH := heavy_any v l W hv hrc hlen
  obtain ⟨va, vc, rfl, hvc, hx⟩ := hv.form
  have HX := Lib.hid hx
  have HT := Lib.hid hT
  have HOk := Lib.hid hok
  clear hv hrc hx hT hok
  go_enter Tryz.func3, Tryz.ntmps3
  go_wp2_with fail
  refine hH.mono ?_
  rintro e w1 ⟨bh, rfl, hbh, m1⟩
  have M1 : Hid (Mod (fun _ => False) W w1) := m1
  have HB := Lib.hid hbh
  clear hH m1 hbh
  cases bh with
  | true => go_wp2_with fail
            refine (works_any w1 (HT.out.mod (M1).out)).mono ?_
            rintro e w9 ⟨rfl, m9⟩
            have M9 : Hid (Mod (fun _ => False) W w9) := (M1).out.trans m9
            clear m9
            go_wp2
            go_ret
            exact ⟨rfl, M9.out⟩
  | false =>
  by_cases hbig : 4096 < owner.size
  · have t1 : decide (4096 < (owner.size : Int)) = true := by simp; omega
    have t1' : decide (4096 < owner.size) = true := by simp; omega
    go_wp2_with fail
    refine (works_any w1 (HT.out.mod (M1).out)).mono ?_
    rintro e w9 ⟨rfl, m9⟩
    have M9 : Hid (Mod (fun _ => False) W w9) := (M1).out.trans m9
    clear m9
    go_wp2
    go_ret
    exact ⟨rfl, M9.out⟩
  have t1 : decide (4096 < (owner.size : Int)) = false := by simp; omega
  have t1' : decide (4096 < owner.size) = false := by simp; omega
  obtain ⟨hl120, hlt⟩ := HB.out rfl
  have HLt := Lib.hid hlt
  clear HB hlt
  have hN := pnew_any owner now w1 (by omega) (HT.out.mod M1.out)
  have hne : ∀ X, (binOp .neq 37 (.agg St.un.cells.toArray) (.agg St.un.cells.toArray)).run Tryz.prog X = .ok (.bool false) X := fun X => by
    have := neq_any St.un St.un X
    rw [(eqS_iff _ _).2 rfl] at this
    exact this
  cases hu : userOk owner with
  | false =>
    have hN2 := hN.mono fun e w' x => x.1 hu
    clear hN
    go_wp2_with fail
    refine hN2.mono ?_
    rintro e w2 ⟨rfl, m2⟩
    have M2 : Hid (Mod (fun _ => False) W w2) := M1.out.trans m2
    have hU := ruser_any owner w2 (by omega) (HT.out.mod M2.out)
    rw [hu] at hU
    clear hN2 m2
    go_wp2_with fail
    refine hU.mono ?_
    rintro e w3 ⟨rfl, m3⟩
    have M3 : Hid (Mod (fun _ => False) W w3) := M2.out.trans m3
    have hM := muser_any owner w3 (by omega) (HT.out.mod M3.out)
    rw [hu] at hM
    unfold nmE at hM
    simp only [Bool.false_eq_true, if_false] at hM
    clear hU m3
    go_wp2_with fail
    refine hM.mono ?_
    rintro e w4 ⟨rfl, m4⟩
    have M4 : Hid (Mod (fun _ => False) W w4) := M3.out.trans m4
    have hA := munt_any w4
    clear hM m4
    go_wp2_with fail
    refine hA.mono ?_
    rintro e w5 ⟨rfl, m5⟩
    have M5 : Hid (Mod (fun _ => False) W w5) := M4.out.trans m5
    have hB := runt_any w5
    clear hA m5
    go_wp2_with fail
    refine hB.mono ?_
    rintro e w6 ⟨rfl, m6⟩
    have M6 : Hid (Mod (fun _ => False) W w6) := M5.out.trans m6
    clear hB m6
    go_wp2_with fail
    refine (works_any w6 (HT.out.mod (M6).out)).mono ?_
    rintro e w9 ⟨rfl, m9⟩
    have M9 : Hid (Mod (fun _ => False) W w9) := (M6).out.trans m9
    clear m9
    go_wp2
    go_ret
    exact ⟨rfl, M9.out⟩
  | true =>
    have hN2 := hN.mono fun e w' x => x.2 hu
    clear hN
    go_wp2_with fail
    refine hN2.mono ?_
    rintro e w2 ⟨b, ρ, mb, am, vk, rfl, hp2, m2, hr2⟩
    have M2 : Hid (Mod (fun _ => False) W w2) := M1.out.trans m2
    have HP2 := Lib.hid hp2
    have HR2 : Hid (∀ k, ρ k ≠ .none → W.heap.size ≤ k) := fun k hk => Nat.le_trans M1.out.size (hr2 k hk)
    have hU := ruser_any owner w2 (by omega) (HT.out.mod M2.out)
    rw [hu] at hU
    clear hN2 m2 hp2 hr2
    go_wp2_with fail
    refine hU.mono ?_
    rintro e w3 ⟨rfl, m3⟩
    have M23 := Lib.hid m3
    have M3 : Hid (Mod (fun _ => False) W w3) := M2.out.trans m3
    have hM := muser_any owner w3 (by omega) (HT.out.mod M3.out)
    rw [hu] at hM
    unfold nmE at hM
    simp only [if_true] at hM
    clear hU m3
    go_wp2_with fail
    refine hM.mono ?_
    rintro e w4 ⟨rfl, m4⟩
    have M24 : Hid (Mod (fun _ => False) w2 w4) := M23.out.trans m4
    have M4 : Hid (Mod (fun _ => False) W w4) := M3.out.trans m4
    have hA := munt_any w4
    clear hM m4
    go_wp2_with fail
    refine hA.mono ?_
    rintro e w5 ⟨rfl, m5⟩
    have M25 : Hid (Mod (fun _ => False) w2 w5) := M24.out.trans m5
    have M5 : Hid (Mod (fun _ => False) W w5) := M4.out.trans m5
    have hB := runt_any w5
    clear hA m5
    go_wp2_with fail
    refine hB.mono ?_
    rintro e w6 ⟨rfl, m6⟩
    have M26 : Hid (Mod (fun _ => False) w2 w6) := M25.out.trans m6
    have M6 : Hid (Mod (fun _ => False) W w6) := M5.out.trans m6
    have hR := rNew_any owner now w6
    clear hB m6
    go_wp2_with fail
    refine hR.mono ?_
    rintro e w7 ⟨b', F, g, cap, vks, rfl, hr7, m7, hf7⟩
    have wf0 : WF (newT owner now) := new_wf (by omega) hnow
    have hTw : TwoT w7 ρ F b b' 1 (newT owner now) (newT owner now) := TwoT.init HP2.out M26.out hr7 m7 hf7 wf0 wf0
    have hBs : Bse W w7 ρ F := ⟨HT.out, M6.out.trans m7, fun k hk => by
      rcases hk with x | x
      · exact HR2.out k x
      · exact Nat.le_trans M6.out.size (hf7 k x)⟩
    have HS0 : Hid (Sc W w7 ρ F w7 b b' 1 (newT owner now) (newT owner now)) := ⟨ρ, F, hTw, hBs, TwM.refl _ _ _⟩
    have hlast : (newT owner now).last = 1 := rfl
    have HLa := Lib.hid hlast
    clear hR m7 hr7 hf7 hTw hBs wf0 hlast M26 M25 M24 M23 M1 M2 M3 M4 M5 M6 HP2 HR2 hne
    generalize newT owner now = T0 at *
    go_wp2
    go_loopw [11, 12, 13] (fun i _ _ wr => ∃ (k : Nat), k ≤ l.length ∧ i = .int .i64 k ∧ Hid (Sc W w7 ρ F wr b b' (k + 1) (runT T0 (l.take k)) (runT T0 (l.take k)))) (fun i _ _ _ => l.length - (intOf i).toNat)
    case atStart => exact ⟨0, Nat.zero_le _, rfl, HS0⟩
    case round =>
      obtain ⟨k, hk, rfl, HS⟩ := hrel
      by_cases hlt : k < l.length
      · obtain ⟨g1, o1, rfl, _, hg1, hc1⟩ := HX.out k l[k] (List.getElem?_eq_getElem hlt)
        have hsk := HOk.out l[k] (List.getElem_mem hlt)
        have hsl := HLt.out l[k] (List.getElem_mem hlt)
        have HRn := Lib.hid (runT_take T0 l k hlt)
        have hls : (runT T0 (l.take k)).last + 1 < 18446744073709551616 := by
          have h1 := runT_last (l.take k) T0
          rw [List.length_take, HLa.out] at h1
          omega
        generalize l[k] = s at *
        obtain ⟨T, hTT⟩ : ∃ T, runT T0 (l.take k) = T := ⟨_, rfl⟩
        rw [hTT] at HRn HS hls
        have hSt := sc_step HS.out s hsk hsl (by omega) hls hls
        have hr1 : wr.rangeAt g1 (o1 + k * 23) s.cells := rec_rng hg1 hc1 HS.out.m
        have hsl := sp_len s
        have t2 : decide ((k : Int) < (l.length : Int)) = true := by simp; omega
        have t2' : decide (k < l.length) = true := by simp; omega
        have i1 : (0 : Int) ≤ (k : Int) := by omega
        have i2 : (k : Int) < (l.length : Int) := by omega
        have i3 : (l.length : Int) ≤ (vc : Int) := by omega
        clear hc1 hsk hTT hls HS
        go_wp2_with (refine wpList_load_mid rfl 44 (.tmp 75) rfl g1 (o1 + k * 23) rfl s.cells _ hr1 Tryz.underlying44 rfl (by kernel_rfl) ?_)
        refine hSt.mono ?_
        rintro e wn ⟨vv, rfl, hvv, hsc⟩
        obtain rfl : vv = true := hvv rfl
        have HS2 : Hid (Sc W w7 ρ F wn b b' (k + 1 + 1) (runT T0 (l.take (k + 1))) (runT T0 (l.take (k + 1)))) := by
          show Sc _ _ _ _ _ _ _ _ _ _
          rw [HRn.out]; exact hsc
        clear hSt hr1 hvv hsc HRn
        go_wp2
        go_roundw
        case rel => exact ⟨k + 1, hlt, by go_num, HS2⟩
        case measure => simp [intOf]; omega
      · obtain rfl : k = l.length := by omega
        have t2 : decide ((l.length : Int) < (l.length : Int)) = false := by simp
        have t2' : decide (l.length < l.length) = false := by simp
        rw [List.take_length] at HS
        generalize runT T0 l = T at *
        have hA := sc_all HS.out (by omega)
        go_wp2_with fail
        refine hA.mono ?_
        rintro e w8 ⟨v1, rfl, hv1, m8⟩
        have HS8 := Lib.hid (HS.out.do0 m8)
        have HV1 := Lib.hid (hv1.imp (Q := fun _ => True) fun _ _ => trivial)
        have hB := sc_rall HS8.out
        have HLn := Lib.hid (allT_len HS8.out.wfT)
        clear hA m8 hv1 HS
        go_wp2_with fail
        refine hB.mono ?_
        rintro e w9 ⟨v2, rfl, hv2, m9⟩
        have M9 : Hid (Mod (fun _ => False) W w9) := HS8.out.m.trans m9
        have hF := files_any v1 v2 (allT T) w9 (HV1.out.mod m9 fun _ _ _ x => x) (hv2.imp fun _ _ => trivial) HLn.out
        clear hB m9 hv2 HV1 HS8
        go_wp2_with fail
        refine hF.mono ?_
        rintro e wa ⟨rfl, ma⟩
        have Ma : Hid (Mod (fun _ => False) W wa) := M9.out.trans ma
        clear hF ma
        go_wp2_with fail
        refine (works_any wa (HT.out.mod Ma.out)).mono ?_
        rintro e wb ⟨rfl, mb⟩
        have Mb : Hid (Mod (fun _ => False) W wb) := Ma.out.trans mb
        clear mb
        go_wp2
        go_ret
        exact ⟨rfl, Mb.out⟩
end Go.Proofs.YtkcnbbjmkkaolaaGreatDoor
