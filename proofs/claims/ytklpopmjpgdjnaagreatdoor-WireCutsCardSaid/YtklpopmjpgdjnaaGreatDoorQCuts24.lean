/- The law WireCuts, walked. -/
import Derived.Test.YtklpopmjpgdjnaaGreatDoorQBack24
import Derived.Test.YtklpopmjpgdjnaaGreatDoorQPCuts
import Derived.Test.YtklpopmjpgdjnaaGreatDoorQLawMsgs
set_option linter.unusedVariables false
set_option linter.unusedSimpArgs false
namespace Go.Proofs.YtklpopmjpgdjnaaGreatDoor
open Go.RowKit

theorem src_one (f : ByteArray) (wr : World) : Src Tryz.prog 1 25 (.slice (some ⟨wr.heap.size, 0, none⟩) 1 1) 1 [.string f] (wr.alloc (.cells #[.string f] 9)) :=
  Src.ofSlice _ Tryz.underlying25 _ _ _ _ rfl (fun j u hj => by
    cases j with
    | zero => cases hj; exact (cell_of (new_at wr _) 0).trans rfl
    | succ j => cases hj) (by intro u hu; simp only [List.mem_cons, List.not_mem_nil, or_false] at hu; subst hu; rfl)
theorem split_at (H A : ByteArray) (N : Nat) (h : N ≤ A.size) : (H ++ A.extract 0 N).data.toList ++ (A.extract N A.size).data.toList = H.data.toList ++ A.data.toList := by
  have e1 : (A.extract 0 N).data.toList = A.data.toList.take N := by
    have := extract_take A 0 N
    rw [Nat.zero_add, List.drop_zero] at this
    exact this
  have e2 : (A.extract N A.size).data.toList = A.data.toList.drop N := by
    rw [show A.size = N + (A.size - N) by omega, extract_take, List.take_of_length_le]
    rw [List.length_drop, bsize]
    omega
  rw [ByteArray.data_append, Array.toList_append, List.append_assoc, e1, e2, List.take_append_drop]
set_option maxHeartbeats 4000000 in
set_option maxRecDepth 100000 in
theorem cuts_walk (L : List Msg) (v : Value) (pa : Option Addr) (pl pc : Nat) (C : Nat → Nat) (s : ByteArray) (w : World) (hk : ∀ m ∈ L, m.Ok) (hr : ∀ m ∈ L, m.Reach) (hL : MsgsAt w v L)
    (hp : ∀ i, i < pl → C i ≤ 65535 ∧ ∃ g off, pa = some ⟨g, off, none⟩ ∧ g < w.heap.size ∧ w.cell? ⟨g, off + i, none⟩ = some (.int .u16 (C i))) (hpl : pl ≤ maxLen) (hs : s.size ≤ maxLen) (hT : Tabs w) :
    Calls Tryz.prog 5 #[v, .slice pa pl pc, .string s] w fun e w' => e = .returned (.bool true) ∧ Mod (fun _ => False) w w' := by
  have hWk := fun U (hU : Mod (fun _ => False) w U) => works24_any U (hT.mod hU)
  obtain ⟨a, cap, rfl, hcap, hx⟩ := hL
  go_enter Tryz.func5, Tryz.ntmps5
  by_cases b1 : 12 < L.length
  · have t1 : decide (12 < (L.length : Int)) = true := by simp; omega
    go_wp2_with fail
    refine (hWk _ (Mod.refl _ w)).mono ?_
    rintro e w2 ⟨rfl, m2⟩
    go_wp2
    go_ret
    exact ⟨rfl, m2⟩
  have t1 : decide (12 < (L.length : Int)) = false := by simp; omega
  by_cases b2 : 200 < pl
  · have t2 : decide (200 < (pl : Int)) = true := by simp; omega
    go_wp2_with fail
    refine (hWk _ (Mod.refl _ w)).mono ?_
    rintro e w2 ⟨rfl, m2⟩
    go_wp2
    go_ret
    exact ⟨rfl, m2⟩
  have t2 : decide (200 < (pl : Int)) = false := by simp; omega
  by_cases b3 : 4096 < s.size
  · have t3 : decide (4096 < (s.size : Int)) = true := by simp; omega
    go_wp2_with fail
    refine (hWk _ (Mod.refl _ w)).mono ?_
    rintro e w2 ⟨rfl, m2⟩
    go_wp2
    go_ret
    exact ⟨rfl, m2⟩
  have t3 : decide (4096 < (s.size : Int)) = false := by simp; omega
  have HT := Lib.hid hT
  have HP := Lib.hid hp
  clear hT hp
  go_wp2
  go_loopw [7, 8, 9, 10, 11] (fun v a i _ _ wr => ∃ (j : Nat) (A : ByteArray), j ≤ L.length ∧ i = .int .i64 j ∧ a = .string A ∧ Hid (A.data.toList = catF (frames (L.take j))) ∧ Hid (OwnA wr w.heap.size 1 v (frames (L.take j)).length ((frames (L.take j)).map Value.string)) ∧ Hid (Mod (fun _ => False) w wr)) (fun _ _ i _ _ _ => L.length - (intOf i).toNat)
  case atStart => exact ⟨0, _, Nat.zero_le _, rfl, rfl, Lib.hid (by simp [frames, catF]), Lib.hid (OwnA.nil _ _ _), Lib.hid (Mod.refl _ _)⟩
  case round =>
    obtain ⟨j, A, hj, rfl, rfl, HA, HO, MM⟩ := hrel
    have hFl := frames_len (L.take j)
    rw [List.length_take] at hFl
    have hAs : A.size ≤ 12 * 8192 := by
      have h1 := catF_len (l := frames (L.take j)) fun f hf => (frames_ok hf).2.1
      rw [← HA.out, bsize] at h1
      have : (frames (L.take j)).length ≤ 12 := by omega
      have := Nat.mul_le_mul_right 8192 this
      omega
    by_cases hjl : j < L.length
    · obtain ⟨g, off, vn, vq, hae, hg, hrg0, hn0, hq0⟩ := hx j _ (List.getElem?_eq_getElem hjl)
      have hkm := hk _ (List.getElem_mem hjl)
      have hrm := hr _ (List.getElem_mem hjl)
      have HFr := Lib.hid (frames_take (List.getElem?_eq_getElem hjl))
      generalize L[j] = m at *
      subst hae
      have q1 : decide ((j : Int) < (L.length : Int)) = true := by simp; omega
      have j1 : (0 : Int) ≤ (j : Int) := by omega
      have j2 : (j : Int) < (L.length : Int) := by omega
      have j3 : (L.length : Int) ≤ (cap : Int) := by omega
      have hrk : ∀ U, Mod (fun _ => False) w U → U.rangeAt g (off + j * 36) (m.cells vn vq) := fun U hU => rangeAt_mod hrg0 hU hg
      have hr1 := hrk _ MM.out
      have hLo := long_any m vn vq _ wr hrm (hn0.mod MM.out fun _ _ _ x => x) (hq0.mod MM.out fun _ _ _ x => x)
      have hml : (m.cells vn vq).length = 36 := rfl
      have HN := Lib.hid hn0
      have HQ := Lib.hid hq0
      clear hn0 hq0 hrg0
      cases hlm : longM m with
      | true =>
        rw [hlm] at hLo
        go_wp2_with (first
          | refine wpList_load_mid rfl 33 (.tmp 42) rfl g (off + j * 36) rfl (m.cells vn vq) _ hr1 Tryz.underlying33 rfl (by kernel_rfl) ?_
          | (go_at_call 14; refine hLo.mono ?_; rintro e w1 ⟨rfl, m1⟩)
          | (go_at_call 8; refine (hWk _ (MM.out.trans m1)).mono ?_; rintro e w2 ⟨rfl, m2⟩))
        go_ret
        exact ⟨rfl, (MM.out.trans m1).trans m2⟩
      | false =>
        rw [hlm] at hLo
        have hsm := longM_small hlm
        have hCp := fun U (hU : Mod (fun _ => False) w U) => copied_any m vn vq _ U hsm.nl hsm.ql (HN.out.mod hU fun _ _ _ x => x) (HQ.out.mod hU fun _ _ _ x => x)
        have hEn := fun U a b c d e => enc_lt m a b c U hkm hsm d e
        have hes := encM_size m
        have hE0 := HO.out
        by_cases he : (encM m).2 = 0
        · have q2 : ((encM m).2 == 0) = true := by simp [he]
          have hEO : encO m = some (encM m).1 := if_pos he
          rw [hEO] at HFr
          have HFr : Hid (frames (L.take (j + 1)) = frames (L.take j) ++ [(encM m).1]) := HFr
          have hfr := encM_frame he
          clear he hEO
          generalize (encM m).1 = f at *
          generalize (encM m).2 = er at *
          obtain ⟨k0, hk0⟩ : ∃ k0, (frames (L.take j)).length = k0 := ⟨_, rfl⟩
          rw [hk0] at hE0 hFl
          clear HO
          go_wp2_with (first
            | refine wpList_load_mid rfl 33 (.tmp 42) rfl g (off + j * 36) rfl (m.cells vn vq) _ hr1 Tryz.underlying33 rfl (by kernel_rfl) ?_
            | (go_at_call 14; refine hLo.mono ?_; rintro e w1 ⟨rfl, m1⟩; have M1 := MM.out.trans m1; have hr2 := hrk _ M1; clear hLo hr1)
            | refine wpList_load_mid rfl 33 (.tmp 49) rfl g (off + j * 36) rfl (m.cells vn vq) _ hr2 Tryz.underlying33 rfl (by kernel_rfl) ?_
            | (go_at_call 16; refine (hCp _ M1).mono ?_; rintro e w2 ⟨vn2, vq2, rfl, hn2, hq2, m2⟩; have M2 := Lib.hid (M1.trans m2); clear M1 hr2 hCp)
            | (go_at_call 15; refine (hEn _ _ _ _ hn2 hq2 (HT.out.mod M2.out)).mono ?_; rintro e w3 ⟨rfl, m3⟩; have M3 := Lib.hid (M2.out.trans m3); have g3 := (m1.trans m2).trans m3; have A1 : Hid (OwnA (w3.alloc (.cells #[.string f] 9)) w.heap.size 1 u7 k0 ((frames (L.take j)).map Value.string)) := hE0.mod (g3.alloc _) (fun _ _ x => x); have A2 : Hid (Src Tryz.prog 1 25 (.slice (some ⟨w3.heap.size, 0, none⟩) 1 1) 1 [.string f] (w3.alloc (.cells #[.string f] 9))) := src_one f w3; have A3 : Hid ((k0 + 1) * 16 ≤ 140737488355328) := (show _ ≤ _ by omega); have A4 : Hid (k0 + 1 ≤ 9223372036854775807) := (show _ ≤ _ by omega); have A5 : Hid (w.heap.size ≤ (w3.alloc (.cells #[.string f] 9)).heap.size) := Nat.le_trans M3.out.size (by rw [World.size_alloc]; omega); clear hEn hn2 hq2 M2 m2 m3 m1 g3)
            | (refine wpl_append rfl (.tmp 57) (.tmp 59) _ _ rfl w.heap.size 9 (.string { data := #[] }) 1 16 Tryz.underlying25 info_str rfl (by decide) u7 _ _ rfl A1.out _ _ _ rfl A2.out A3.out A4.out A5.out ?_; intro v' w6 hown' hgrow))
          go_roundw
          case rel =>
            refine ⟨j + 1, A ++ f, hjl, by go_num, rfl, ?_, ?_, ?_⟩
            · show _ = _
              rw [HFr.out, catF_append, catF_one, ← HA.out]
              simp
            · show OwnA _ _ _ _ _ _
              rw [HFr.out, List.map_append, List.length_append, hk0]
              exact hown'
            · exact A1.out.thenMod (M3.out.alloc _) hgrow (Nat.le_refl _)
          case measure => simp [intOf]; omega
        · have q2 : ((encM m).2 == 0) = false := by simp [he]
          have hEO : encO m = none := if_neg he
          rw [hEO] at HFr
          have HFr : Hid (frames (L.take (j + 1)) = frames (L.take j)) := HFr.out.trans (List.append_nil _)
          clear he hEO hE0
          generalize (encM m).1 = f at *
          generalize (encM m).2 = er at *
          go_wp2_with (first
            | refine wpList_load_mid rfl 33 (.tmp 42) rfl g (off + j * 36) rfl (m.cells vn vq) _ hr1 Tryz.underlying33 rfl (by kernel_rfl) ?_
            | (go_at_call 14; refine hLo.mono ?_; rintro e w1 ⟨rfl, m1⟩; have M1 := MM.out.trans m1; have hr2 := hrk _ M1; clear hLo hr1)
            | refine wpList_load_mid rfl 33 (.tmp 49) rfl g (off + j * 36) rfl (m.cells vn vq) _ hr2 Tryz.underlying33 rfl (by kernel_rfl) ?_
            | (go_at_call 16; refine (hCp _ M1).mono ?_; rintro e w2 ⟨vn2, vq2, rfl, hn2, hq2, m2⟩; have M2 := Lib.hid (M1.trans m2); clear M1 hr2 hCp)
            | (go_at_call 15; refine (hEn _ _ _ _ hn2 hq2 (HT.out.mod M2.out)).mono ?_; rintro e w3 ⟨rfl, m3⟩; have M3 := Lib.hid (M2.out.trans m3); have g3 := (m1.trans m2).trans m3; clear hEn hn2 hq2 M2 m2 m3 m1))
          go_roundw
          case rel =>
            refine ⟨j + 1, A, hjl, by go_num, rfl, ?_, ?_, M3.out⟩
            · rw [HFr.out]; exact HA.out
            · rw [HFr.out]; exact HO.out.mod g3 fun _ _ x => x
          case measure => simp [intOf]; omega
    · obtain rfl : j = L.length := by omega
      have q1 : decide ((L.length : Int) < (L.length : Int)) = false := by simp
      have hFk : ∀ f ∈ frames L, Frame f := fun f hf => frames_ok hf
      rw [List.take_length] at *
      have hA' := HA.out
      generalize frames L = FS at *
      have HFk := Lib.hid hFk
      have HAA := Lib.hid hA'
      have hFl : FS.length ≤ 12 := by omega
      clear hFk hx hk hr hA' HA
      generalize wr = wA at *
      have hwt := HO.out.slAt
      have HW0 : Hid (SlAt wA (w.heap.size ≤ ·) u7 (FS.map Value.string)) := hwt
      obtain ⟨a7, c7, rfl, hc7, hx7⟩ := hwt.form
      rw [List.length_map] at *
      clear hwt HO
      by_cases c3 : 3 < s.size
      · have t4 : decide (3 < (s.size : Int)) = true := by simp; omega
        have s1 : (3 : Int) ≤ (s.size : Int) := by omega
        have s2 : 3 ≤ s.size := by omega
        obtain ⟨M, hMe⟩ : ∃ M, s.extract 0 3 = M := ⟨_, rfl⟩
        have hM : M.size ≤ 3 := by rw [← hMe, ByteArray.size_extract]; omega
        obtain ⟨B, hB⟩ : ∃ B, A ++ M = B := ⟨_, rfl⟩
        have hBs : B.size ≤ 12 * 8192 + 3 := by rw [← hB, ByteArray.size_append]; omega
        have HB : Hid (B.data.toList = catF FS ++ M.data.toList) := by rw [← hB]; show _ = _; rw [← HAA.out]; simp
        clear HAA
        go_wp2
        clear hB
        go_loopw [8, 12, 13, 14, 15, 16, 17, 18] (fun av gv hv i _ _ _ _ wl => ∃ (k g : Nat) (A H : ByteArray), k ≤ pl + 1 ∧ i = .int .i64 k ∧ av = .string A ∧ hv = .string H ∧ g ≤ FS.length ∧ Hid (H.data.toList ++ A.data.toList = catF (FS.drop g) ++ M.data.toList) ∧ Hid (k = pl + 1 → A.size = 0 ∧ FS.drop g = []) ∧ Hid (OwnA wl wA.heap.size 1 gv g ((FS.take g).map Value.string)) ∧ Hid (Mod (fun _ => False) wA wl)) (fun _ _ _ i _ _ _ _ _ => pl + 1 - (intOf i).toNat)
        case atStart => exact ⟨0, 0, _, _, Nat.zero_le _, rfl, rfl, rfl, Nat.zero_le _, HB, Lib.hid (fun h => by omega), Lib.hid (OwnA.nil _ _ _), Lib.hid (Mod.refl _ _)⟩
        case round =>
          obtain ⟨k, g, A, H, hk, rfl, rfl, rfl, hg, HH, HE, HG, ML⟩ := hrel
          generalize wr = wB at *
          by_cases hkl : k ≤ pl
          · have t5 : decide ((k : Int) ≤ (pl : Int)) = true := by simp; omega
            by_cases hkp : k < pl
            · have t6 : decide ((k : Int) < (pl : Int)) = true := by simp; omega
              obtain ⟨hC1, gp, op, rfl, hgp, hcp⟩ := HP.out k hkp
              have e1 := keepR (MM.out.trans ML.out) hcp
              have j1 : (0 : Int) ≤ (k : Int) := by omega
              have j2 : (k : Int) < (pl : Int) := by omega
              have hw6 : IntKind.i64.wrap (C k : Int) = C k := by rw [IntKind.wrap_i64]; omega
              obtain ⟨N, hN⟩ : ∃ N, min A.size (C k) = N := ⟨_, rfl⟩
              have hmin : min (A.size : Int) (C k : Int) = (N : Int) := by rw [← hN]; omega
              have hNA : N ≤ A.size := by omega
              have hfin : k = pl → N = A.size := fun h => by omega
              have hHA : H.size + A.size ≤ 12 * 8192 + 3 := by
                have h1 := congrArg List.length HH.out
                simp only [List.length_append, bsize] at h1
                have h2 := catF_len (l := FS.drop g) fun f hf => (HFk.out f (List.mem_of_mem_drop hf)).2.1
                have h3 : (FS.drop g).length ≤ 12 := by rw [List.length_drop]; omega
                have := Nat.mul_le_mul_right 8192 h3
                omega
              obtain ⟨X, hX⟩ : ∃ X, A.extract 0 (N) = X := ⟨_, rfl⟩
              obtain ⟨Y, hY⟩ : ∃ Y, A.extract (N) A.size = Y := ⟨_, rfl⟩
              have hXs : X.size = N := by rw [← hX, ByteArray.size_extract]; omega
              have hYs : Y.size = A.size - N := by rw [← hY, ByteArray.size_extract]; omega
              obtain ⟨H1, hH1⟩ : ∃ H1, H ++ X = H1 := ⟨_, rfl⟩
              have HH1 : Hid (H1.data.toList ++ Y.data.toList = catF (FS.drop g) ++ M.data.toList) := by
                show _ = _
                rw [← HH.out, ← hH1, ← hX, ← hY]
                exact split_at H A (N) hNA
              have HYf : Hid (k = pl → Y.data.toList = []) := fun h => List.eq_nil_of_length_eq_zero (by rw [bsize, hYs, hfin h]; omega)
              have i1 : (N : Int) ≤ (A.size : Int) := by omega
              have i0 : (0 : Int) ≤ (N : Int) := by omega
              have hHx : H.size + N ≤ 12 * 8192 + 3 := by omega
              clear HH HE hfin
              skip
              go_wp2
              clear hX hY hH1 i1 i0 hHx hXs hYs
              go_loopw [12, 13, 16, 17, 18] (fun gv hv _ _ _ wi => ∃ (g : Nat) (H : ByteArray), hv = .string H ∧ g ≤ FS.length ∧ Hid (H.data.toList ++ (Y).data.toList = catF (FS.drop g) ++ M.data.toList) ∧ Hid (OwnA wi wA.heap.size 1 gv g ((FS.take g).map Value.string)) ∧ Hid (Mod (fun _ => False) wA wi)) (fun _ hv _ _ _ _ => match hv with | .string s => s.size | _ => 0)
              case atStart => exact ⟨g, H1, rfl, hg, HH1, HG, ML⟩
              case round =>
                clear HG HH1 hg
                obtain ⟨g, H, rfl, hg, HH, HG, MI⟩ := hrel
                have hHs : H.size ≤ 12 * 8192 + 3 := by
                  have h1 := congrArg List.length HH.out
                  simp only [List.length_append, bsize] at h1
                  have h2 := catF_len (l := FS.drop g) fun f hf => (HFk.out f (List.mem_of_mem_drop hf)).2.1
                  have h3 : (FS.drop g).length ≤ 12 := by rw [List.length_drop]; omega
                  have := Nat.mul_le_mul_right 8192 h3
                  omega
                have hCt := cut_any H 8192 wr (by show _ ≤ 9223372036854775807; omega) (by decide)
                rcases cut_step H M (FS.drop g) (Y).data.toList (fun f hf => HFk.out f (List.mem_of_mem_drop hf)) hM HH.out with ⟨hc, hfs⟩ | ⟨f, r, H', hfs, hfr, hc, hH', hsz⟩
                · rw [hc] at hCt
                  have HF2 : Hid (k + 1 = pl + 1 → (Y).size = 0 ∧ FS.drop g = []) := fun h => by
                    have h0 := HYf.out (by omega)
                    exact ⟨by rw [← bsize, h0]; rfl, hfs h0⟩
                  clear hc hfs HYf
                  go_wp2_with fail
                  refine hCt.mono ?_
                  rintro e w4 ⟨rfl, m4⟩
                  go_wp2
                  go_roundw
                  case rel => exact ⟨k + 1, g, (Y), H, by omega, by go_num, rfl, rfl, hg, HH, HF2, HG.out.mod m4 fun _ _ x => x, MI.out.trans m4⟩
                  case measure => simp [intOf]; omega
                · rw [hc] at hCt
                  have f7 := hfr.1
                  have f8 := hfr.2.1
                  have qf : f.toList.isEmpty = false := by rw [empty_beq']; exact decide_eq_false (by omega)
                  have hgl : g < FS.length := by
                    have := congrArg List.length hfs
                    rw [List.length_drop, List.length_cons] at this
                    omega
                  have hdr : FS.drop (g + 1) = r := by rw [← List.drop_drop, hfs]; rfl
                  have htk : FS.take (g + 1) = FS.take g ++ [f] := by
                    have h1 : FS[g]? = some f := by
                      have := congrArg (fun l => l[0]?) hfs
                      simpa using this
                    obtain ⟨h2, rfl⟩ := List.getElem?_eq_some_iff.1 h1
                    exact List.take_succ_eq_append_getElem h2
                  have HT1 := Lib.hid htk
                  have HD1 : Hid (H'.data.toList ++ (Y).data.toList = catF (FS.drop (g + 1)) ++ M.data.toList) := by show _ = _; rw [hdr]; exact hH'
                  have hG := HG.out
                  have HHs := Lib.hid hsz
                  clear hc hfs hfr hdr htk hH' HH HG hsz
                  go_wp2_with (first
                    | (go_at_call 11; refine hCt.mono ?_; rintro e w4 ⟨rfl, m4⟩; have M4 := Lib.hid (MI.out.trans m4); have A1 : Hid (OwnA (w4.alloc (.cells #[.string f] 9)) wA.heap.size 1 u12 g ((FS.take g).map Value.string)) := hG.mod (m4.alloc _) (fun _ _ x => x); have A2 : Hid (Src Tryz.prog 1 25 (.slice (some ⟨w4.heap.size, 0, none⟩) 1 1) 1 [.string f] (w4.alloc (.cells #[.string f] 9))) := src_one f w4; have A3 : Hid ((g + 1) * 16 ≤ 140737488355328) := (show _ ≤ _ by omega); have A4 : Hid (g + 1 ≤ 9223372036854775807) := (show _ ≤ _ by omega); have A5 : Hid (wA.heap.size ≤ (w4.alloc (.cells #[.string f] 9)).heap.size) := Nat.le_trans M4.out.size (by rw [World.size_alloc]; omega); clear hCt hG m4)
                    | (refine wpl_append rfl (.tmp 109) (.tmp 111) _ _ rfl wA.heap.size 9 (.string { data := #[] }) 1 16 Tryz.underlying25 info_str rfl (by decide) u12 _ _ rfl A1.out _ _ _ rfl A2.out A3.out A4.out A5.out ?_; intro v' w6 hown' hgrow))
                  go_roundw
                  case rel =>
                    refine ⟨g + 1, H', rfl, hgl, HD1, ?_, ?_⟩
                    · show OwnA _ _ _ _ _ _
                      rw [HT1.out, List.map_append]
                      exact hown'
                    · exact A1.out.thenMod (M4.out.alloc _) hgrow (Nat.le_refl _)
                  case measure =>
                    have := HHs.out
                    show H'.size < H.size
                    omega
            · have t6 : decide ((k : Int) < (pl : Int)) = false := by simp; omega
              have hNA : A.size ≤ A.size := Nat.le_refl _
              have hfin : k = pl → A.size = A.size := fun _ => rfl
              have hHA : H.size + A.size ≤ 12 * 8192 + 3 := by
                have h1 := congrArg List.length HH.out
                simp only [List.length_append, bsize] at h1
                have h2 := catF_len (l := FS.drop g) fun f hf => (HFk.out f (List.mem_of_mem_drop hf)).2.1
                have h3 : (FS.drop g).length ≤ 12 := by rw [List.length_drop]; omega
                have := Nat.mul_le_mul_right 8192 h3
                omega
              obtain ⟨X, hX⟩ : ∃ X, A.extract 0 (A.size) = X := ⟨_, rfl⟩
              obtain ⟨Y, hY⟩ : ∃ Y, A.extract (A.size) A.size = Y := ⟨_, rfl⟩
              have hXs : X.size = A.size := by rw [← hX, ByteArray.size_extract]; omega
              have hYs : Y.size = A.size - A.size := by rw [← hY, ByteArray.size_extract]; omega
              obtain ⟨H1, hH1⟩ : ∃ H1, H ++ X = H1 := ⟨_, rfl⟩
              have HH1 : Hid (H1.data.toList ++ Y.data.toList = catF (FS.drop g) ++ M.data.toList) := by
                show _ = _
                rw [← HH.out, ← hH1, ← hX, ← hY]
                exact split_at H A (A.size) hNA
              have HYf : Hid (k = pl → Y.data.toList = []) := fun h => List.eq_nil_of_length_eq_zero (by rw [bsize, hYs, hfin h]; omega)
              have i1 : (A.size : Int) ≤ (A.size : Int) := by omega
              have i0 : (0 : Int) ≤ (A.size : Int) := by omega
              have hHx : H.size + A.size ≤ 12 * 8192 + 3 := by omega
              clear HH HE hfin
              (have hYe : Y = ByteArray.empty := empty_size (by omega); subst hYe)
              go_wp2
              clear hX hY hH1 i1 i0 hHx hXs hYs
              go_loopw [12, 13, 16, 17, 18] (fun gv hv _ _ _ wi => ∃ (g : Nat) (H : ByteArray), hv = .string H ∧ g ≤ FS.length ∧ Hid (H.data.toList ++ (ByteArray.empty).data.toList = catF (FS.drop g) ++ M.data.toList) ∧ Hid (OwnA wi wA.heap.size 1 gv g ((FS.take g).map Value.string)) ∧ Hid (Mod (fun _ => False) wA wi)) (fun _ hv _ _ _ _ => match hv with | .string s => s.size | _ => 0)
              case atStart => exact ⟨g, H1, rfl, hg, HH1, HG, ML⟩
              case round =>
                clear HG HH1 hg
                obtain ⟨g, H, rfl, hg, HH, HG, MI⟩ := hrel
                have hHs : H.size ≤ 12 * 8192 + 3 := by
                  have h1 := congrArg List.length HH.out
                  simp only [List.length_append, bsize] at h1
                  have h2 := catF_len (l := FS.drop g) fun f hf => (HFk.out f (List.mem_of_mem_drop hf)).2.1
                  have h3 : (FS.drop g).length ≤ 12 := by rw [List.length_drop]; omega
                  have := Nat.mul_le_mul_right 8192 h3
                  omega
                have hCt := cut_any H 8192 wr (by show _ ≤ 9223372036854775807; omega) (by decide)
                rcases cut_step H M (FS.drop g) (ByteArray.empty).data.toList (fun f hf => HFk.out f (List.mem_of_mem_drop hf)) hM HH.out with ⟨hc, hfs⟩ | ⟨f, r, H', hfs, hfr, hc, hH', hsz⟩
                · rw [hc] at hCt
                  have HF2 : Hid (k + 1 = pl + 1 → (ByteArray.empty).size = 0 ∧ FS.drop g = []) := fun h => by
                    have h0 := HYf.out (by omega)
                    exact ⟨by rw [← bsize, h0]; rfl, hfs h0⟩
                  clear hc hfs HYf
                  go_wp2_with fail
                  refine hCt.mono ?_
                  rintro e w4 ⟨rfl, m4⟩
                  go_wp2
                  go_roundw
                  case rel => exact ⟨k + 1, g, (ByteArray.empty), H, by omega, by go_num, rfl, rfl, hg, HH, HF2, HG.out.mod m4 fun _ _ x => x, MI.out.trans m4⟩
                  case measure => simp [intOf]; omega
                · rw [hc] at hCt
                  have f7 := hfr.1
                  have f8 := hfr.2.1
                  have qf : f.toList.isEmpty = false := by rw [empty_beq']; exact decide_eq_false (by omega)
                  have hgl : g < FS.length := by
                    have := congrArg List.length hfs
                    rw [List.length_drop, List.length_cons] at this
                    omega
                  have hdr : FS.drop (g + 1) = r := by rw [← List.drop_drop, hfs]; rfl
                  have htk : FS.take (g + 1) = FS.take g ++ [f] := by
                    have h1 : FS[g]? = some f := by
                      have := congrArg (fun l => l[0]?) hfs
                      simpa using this
                    obtain ⟨h2, rfl⟩ := List.getElem?_eq_some_iff.1 h1
                    exact List.take_succ_eq_append_getElem h2
                  have HT1 := Lib.hid htk
                  have HD1 : Hid (H'.data.toList ++ (ByteArray.empty).data.toList = catF (FS.drop (g + 1)) ++ M.data.toList) := by show _ = _; rw [hdr]; exact hH'
                  have hG := HG.out
                  have HHs := Lib.hid hsz
                  clear hc hfs hfr hdr htk hH' HH HG hsz
                  go_wp2_with (first
                    | (go_at_call 11; refine hCt.mono ?_; rintro e w4 ⟨rfl, m4⟩; have M4 := Lib.hid (MI.out.trans m4); have A1 : Hid (OwnA (w4.alloc (.cells #[.string f] 9)) wA.heap.size 1 u12 g ((FS.take g).map Value.string)) := hG.mod (m4.alloc _) (fun _ _ x => x); have A2 : Hid (Src Tryz.prog 1 25 (.slice (some ⟨w4.heap.size, 0, none⟩) 1 1) 1 [.string f] (w4.alloc (.cells #[.string f] 9))) := src_one f w4; have A3 : Hid ((g + 1) * 16 ≤ 140737488355328) := (show _ ≤ _ by omega); have A4 : Hid (g + 1 ≤ 9223372036854775807) := (show _ ≤ _ by omega); have A5 : Hid (wA.heap.size ≤ (w4.alloc (.cells #[.string f] 9)).heap.size) := Nat.le_trans M4.out.size (by rw [World.size_alloc]; omega); clear hCt hG m4)
                    | (refine wpl_append rfl (.tmp 109) (.tmp 111) _ _ rfl wA.heap.size 9 (.string { data := #[] }) 1 16 Tryz.underlying25 info_str rfl (by decide) u12 _ _ rfl A1.out _ _ _ rfl A2.out A3.out A4.out A5.out ?_; intro v' w6 hown' hgrow))
                  go_roundw
                  case rel =>
                    refine ⟨g + 1, H', rfl, hgl, HD1, ?_, ?_⟩
                    · show OwnA _ _ _ _ _ _
                      rw [HT1.out, List.map_append]
                      exact hown'
                    · exact A1.out.thenMod (M4.out.alloc _) hgrow (Nat.le_refl _)
                  case measure =>
                    have := HHs.out
                    show H'.size < H.size
                    omega
          · have t5 : decide ((k : Int) ≤ (pl : Int)) = false := by simp; omega
            obtain ⟨hA0, hdr⟩ := HE.out (by omega)
            have hgl : g = FS.length := by
              have := congrArg List.length hdr
              rw [List.length_drop, List.length_nil] at this
              omega
            subst hgl
            have hHM : H = M := by
              have h1 := HH.out
              rw [hdr, show A.data.toList = [] from List.eq_nil_of_length_eq_zero (by rw [bsize, hA0]), List.append_nil] at h1
              exact bytes_eq (h1.trans (by simp [catF]))
            subst hHM
            have hgt := HG.out.slAt
            rw [List.take_length] at hgt
            obtain ⟨a8, c8, rfl, hc8, hx8⟩ := hgt.form
            rw [List.length_map] at *
            have q6 : (H.toList == H.toList) = true := by simp
            have q7 : ((FS.length : Int) != (FS.length : Int)) = false := by simp
            clear HG HH HE hgt hdr hA0
            go_wp2
            clear q6 q7
            go_loopw [19] (fun i wq => ∃ (k : Nat), k ≤ FS.length ∧ i = .int .i64 k ∧ Hid (Mod (fun _ => False) wB wq)) (fun i _ => FS.length - (intOf i).toNat)
            case atStart => exact ⟨0, by omega, rfl, Lib.hid (Mod.refl _ _)⟩
            case round =>
              obtain ⟨k, hk', rfl, HM⟩ := hrel
              by_cases hlt : k < FS.length
              · obtain ⟨g1, o1, rfl, _, hg1, hd1⟩ := hx8 k _ (strs_get hlt)
                obtain ⟨g3, o3, rfl, _, hg3, hd3⟩ := hx7 k _ (strs_get hlt)
                have e1 := keepR HM.out hd1
                have e3 := keepR (ML.out.trans HM.out) hd3
                generalize FS[k] = f at *
                have t7 : decide ((k : Int) < (FS.length : Int)) = true := by simp; omega
                have i1 : (0 : Int) ≤ (k : Int) := by omega
                have i2 : (k : Int) < (FS.length : Int) := by omega
                have i3 : (FS.length : Int) ≤ (c7 : Int) := by omega
                have i4 : (FS.length : Int) ≤ (c8 : Int) := by omega
                clear hd1 hd3
                go_wp2
                go_quiet (fail)
                go_wp2
                go_roundw
                case rel => exact ⟨k + 1, hlt, by go_num, Lib.hid (by first | exact HM.out | exact HM.out.drewN _ | exact HM.out.drew)⟩
                case measure => simp [intOf]; omega
              · obtain rfl : k = FS.length := by omega
                have t7 : decide ((FS.length : Int) < (FS.length : Int)) = false := by simp
                go_wp2_with fail
                refine (hWk _ ((MM.out.trans ML.out).trans HM.out)).mono ?_
                rintro e w9 ⟨rfl, m9⟩
                go_wp2
                go_ret
                exact ⟨rfl, ((MM.out.trans ML.out).trans HM.out).trans m9⟩
      · have t4 : decide (3 < (s.size : Int)) = false := by simp; omega
        have hM : s.size ≤ 3 := by omega
        generalize s = M at *
        obtain ⟨B, hB⟩ : ∃ B, A ++ M = B := ⟨_, rfl⟩
        have hBs : B.size ≤ 12 * 8192 + 3 := by rw [← hB, ByteArray.size_append]; omega
        have HB : Hid (B.data.toList = catF FS ++ M.data.toList) := by rw [← hB]; show _ = _; rw [← HAA.out]; simp
        clear HAA
        go_wp2
        clear hB
        go_loopw [8, 12, 13, 14, 15, 16, 17, 18] (fun av gv hv i _ _ _ _ wl => ∃ (k g : Nat) (A H : ByteArray), k ≤ pl + 1 ∧ i = .int .i64 k ∧ av = .string A ∧ hv = .string H ∧ g ≤ FS.length ∧ Hid (H.data.toList ++ A.data.toList = catF (FS.drop g) ++ M.data.toList) ∧ Hid (k = pl + 1 → A.size = 0 ∧ FS.drop g = []) ∧ Hid (OwnA wl wA.heap.size 1 gv g ((FS.take g).map Value.string)) ∧ Hid (Mod (fun _ => False) wA wl)) (fun _ _ _ i _ _ _ _ _ => pl + 1 - (intOf i).toNat)
        case atStart => exact ⟨0, 0, _, _, Nat.zero_le _, rfl, rfl, rfl, Nat.zero_le _, HB, Lib.hid (fun h => by omega), Lib.hid (OwnA.nil _ _ _), Lib.hid (Mod.refl _ _)⟩
        case round =>
          obtain ⟨k, g, A, H, hk, rfl, rfl, rfl, hg, HH, HE, HG, ML⟩ := hrel
          generalize wr = wB at *
          by_cases hkl : k ≤ pl
          · have t5 : decide ((k : Int) ≤ (pl : Int)) = true := by simp; omega
            by_cases hkp : k < pl
            · have t6 : decide ((k : Int) < (pl : Int)) = true := by simp; omega
              obtain ⟨hC1, gp, op, rfl, hgp, hcp⟩ := HP.out k hkp
              have e1 := keepR (MM.out.trans ML.out) hcp
              have j1 : (0 : Int) ≤ (k : Int) := by omega
              have j2 : (k : Int) < (pl : Int) := by omega
              have hw6 : IntKind.i64.wrap (C k : Int) = C k := by rw [IntKind.wrap_i64]; omega
              obtain ⟨N, hN⟩ : ∃ N, min A.size (C k) = N := ⟨_, rfl⟩
              have hmin : min (A.size : Int) (C k : Int) = (N : Int) := by rw [← hN]; omega
              have hNA : N ≤ A.size := by omega
              have hfin : k = pl → N = A.size := fun h => by omega
              have hHA : H.size + A.size ≤ 12 * 8192 + 3 := by
                have h1 := congrArg List.length HH.out
                simp only [List.length_append, bsize] at h1
                have h2 := catF_len (l := FS.drop g) fun f hf => (HFk.out f (List.mem_of_mem_drop hf)).2.1
                have h3 : (FS.drop g).length ≤ 12 := by rw [List.length_drop]; omega
                have := Nat.mul_le_mul_right 8192 h3
                omega
              obtain ⟨X, hX⟩ : ∃ X, A.extract 0 (N) = X := ⟨_, rfl⟩
              obtain ⟨Y, hY⟩ : ∃ Y, A.extract (N) A.size = Y := ⟨_, rfl⟩
              have hXs : X.size = N := by rw [← hX, ByteArray.size_extract]; omega
              have hYs : Y.size = A.size - N := by rw [← hY, ByteArray.size_extract]; omega
              obtain ⟨H1, hH1⟩ : ∃ H1, H ++ X = H1 := ⟨_, rfl⟩
              have HH1 : Hid (H1.data.toList ++ Y.data.toList = catF (FS.drop g) ++ M.data.toList) := by
                show _ = _
                rw [← HH.out, ← hH1, ← hX, ← hY]
                exact split_at H A (N) hNA
              have HYf : Hid (k = pl → Y.data.toList = []) := fun h => List.eq_nil_of_length_eq_zero (by rw [bsize, hYs, hfin h]; omega)
              have i1 : (N : Int) ≤ (A.size : Int) := by omega
              have i0 : (0 : Int) ≤ (N : Int) := by omega
              have hHx : H.size + N ≤ 12 * 8192 + 3 := by omega
              clear HH HE hfin
              skip
              go_wp2
              clear hX hY hH1 i1 i0 hHx hXs hYs
              go_loopw [12, 13, 16, 17, 18] (fun gv hv _ _ _ wi => ∃ (g : Nat) (H : ByteArray), hv = .string H ∧ g ≤ FS.length ∧ Hid (H.data.toList ++ (Y).data.toList = catF (FS.drop g) ++ M.data.toList) ∧ Hid (OwnA wi wA.heap.size 1 gv g ((FS.take g).map Value.string)) ∧ Hid (Mod (fun _ => False) wA wi)) (fun _ hv _ _ _ _ => match hv with | .string s => s.size | _ => 0)
              case atStart => exact ⟨g, H1, rfl, hg, HH1, HG, ML⟩
              case round =>
                clear HG HH1 hg
                obtain ⟨g, H, rfl, hg, HH, HG, MI⟩ := hrel
                have hHs : H.size ≤ 12 * 8192 + 3 := by
                  have h1 := congrArg List.length HH.out
                  simp only [List.length_append, bsize] at h1
                  have h2 := catF_len (l := FS.drop g) fun f hf => (HFk.out f (List.mem_of_mem_drop hf)).2.1
                  have h3 : (FS.drop g).length ≤ 12 := by rw [List.length_drop]; omega
                  have := Nat.mul_le_mul_right 8192 h3
                  omega
                have hCt := cut_any H 8192 wr (by show _ ≤ 9223372036854775807; omega) (by decide)
                rcases cut_step H M (FS.drop g) (Y).data.toList (fun f hf => HFk.out f (List.mem_of_mem_drop hf)) hM HH.out with ⟨hc, hfs⟩ | ⟨f, r, H', hfs, hfr, hc, hH', hsz⟩
                · rw [hc] at hCt
                  have HF2 : Hid (k + 1 = pl + 1 → (Y).size = 0 ∧ FS.drop g = []) := fun h => by
                    have h0 := HYf.out (by omega)
                    exact ⟨by rw [← bsize, h0]; rfl, hfs h0⟩
                  clear hc hfs HYf
                  go_wp2_with fail
                  refine hCt.mono ?_
                  rintro e w4 ⟨rfl, m4⟩
                  go_wp2
                  go_roundw
                  case rel => exact ⟨k + 1, g, (Y), H, by omega, by go_num, rfl, rfl, hg, HH, HF2, HG.out.mod m4 fun _ _ x => x, MI.out.trans m4⟩
                  case measure => simp [intOf]; omega
                · rw [hc] at hCt
                  have f7 := hfr.1
                  have f8 := hfr.2.1
                  have qf : f.toList.isEmpty = false := by rw [empty_beq']; exact decide_eq_false (by omega)
                  have hgl : g < FS.length := by
                    have := congrArg List.length hfs
                    rw [List.length_drop, List.length_cons] at this
                    omega
                  have hdr : FS.drop (g + 1) = r := by rw [← List.drop_drop, hfs]; rfl
                  have htk : FS.take (g + 1) = FS.take g ++ [f] := by
                    have h1 : FS[g]? = some f := by
                      have := congrArg (fun l => l[0]?) hfs
                      simpa using this
                    obtain ⟨h2, rfl⟩ := List.getElem?_eq_some_iff.1 h1
                    exact List.take_succ_eq_append_getElem h2
                  have HT1 := Lib.hid htk
                  have HD1 : Hid (H'.data.toList ++ (Y).data.toList = catF (FS.drop (g + 1)) ++ M.data.toList) := by show _ = _; rw [hdr]; exact hH'
                  have hG := HG.out
                  have HHs := Lib.hid hsz
                  clear hc hfs hfr hdr htk hH' HH HG hsz
                  go_wp2_with (first
                    | (go_at_call 11; refine hCt.mono ?_; rintro e w4 ⟨rfl, m4⟩; have M4 := Lib.hid (MI.out.trans m4); have A1 : Hid (OwnA (w4.alloc (.cells #[.string f] 9)) wA.heap.size 1 u12 g ((FS.take g).map Value.string)) := hG.mod (m4.alloc _) (fun _ _ x => x); have A2 : Hid (Src Tryz.prog 1 25 (.slice (some ⟨w4.heap.size, 0, none⟩) 1 1) 1 [.string f] (w4.alloc (.cells #[.string f] 9))) := src_one f w4; have A3 : Hid ((g + 1) * 16 ≤ 140737488355328) := (show _ ≤ _ by omega); have A4 : Hid (g + 1 ≤ 9223372036854775807) := (show _ ≤ _ by omega); have A5 : Hid (wA.heap.size ≤ (w4.alloc (.cells #[.string f] 9)).heap.size) := Nat.le_trans M4.out.size (by rw [World.size_alloc]; omega); clear hCt hG m4)
                    | (refine wpl_append rfl (.tmp 109) (.tmp 111) _ _ rfl wA.heap.size 9 (.string { data := #[] }) 1 16 Tryz.underlying25 info_str rfl (by decide) u12 _ _ rfl A1.out _ _ _ rfl A2.out A3.out A4.out A5.out ?_; intro v' w6 hown' hgrow))
                  go_roundw
                  case rel =>
                    refine ⟨g + 1, H', rfl, hgl, HD1, ?_, ?_⟩
                    · show OwnA _ _ _ _ _ _
                      rw [HT1.out, List.map_append]
                      exact hown'
                    · exact A1.out.thenMod (M4.out.alloc _) hgrow (Nat.le_refl _)
                  case measure =>
                    have := HHs.out
                    show H'.size < H.size
                    omega
            · have t6 : decide ((k : Int) < (pl : Int)) = false := by simp; omega
              have hNA : A.size ≤ A.size := Nat.le_refl _
              have hfin : k = pl → A.size = A.size := fun _ => rfl
              have hHA : H.size + A.size ≤ 12 * 8192 + 3 := by
                have h1 := congrArg List.length HH.out
                simp only [List.length_append, bsize] at h1
                have h2 := catF_len (l := FS.drop g) fun f hf => (HFk.out f (List.mem_of_mem_drop hf)).2.1
                have h3 : (FS.drop g).length ≤ 12 := by rw [List.length_drop]; omega
                have := Nat.mul_le_mul_right 8192 h3
                omega
              obtain ⟨X, hX⟩ : ∃ X, A.extract 0 (A.size) = X := ⟨_, rfl⟩
              obtain ⟨Y, hY⟩ : ∃ Y, A.extract (A.size) A.size = Y := ⟨_, rfl⟩
              have hXs : X.size = A.size := by rw [← hX, ByteArray.size_extract]; omega
              have hYs : Y.size = A.size - A.size := by rw [← hY, ByteArray.size_extract]; omega
              obtain ⟨H1, hH1⟩ : ∃ H1, H ++ X = H1 := ⟨_, rfl⟩
              have HH1 : Hid (H1.data.toList ++ Y.data.toList = catF (FS.drop g) ++ M.data.toList) := by
                show _ = _
                rw [← HH.out, ← hH1, ← hX, ← hY]
                exact split_at H A (A.size) hNA
              have HYf : Hid (k = pl → Y.data.toList = []) := fun h => List.eq_nil_of_length_eq_zero (by rw [bsize, hYs, hfin h]; omega)
              have i1 : (A.size : Int) ≤ (A.size : Int) := by omega
              have i0 : (0 : Int) ≤ (A.size : Int) := by omega
              have hHx : H.size + A.size ≤ 12 * 8192 + 3 := by omega
              clear HH HE hfin
              (have hYe : Y = ByteArray.empty := empty_size (by omega); subst hYe)
              go_wp2
              clear hX hY hH1 i1 i0 hHx hXs hYs
              go_loopw [12, 13, 16, 17, 18] (fun gv hv _ _ _ wi => ∃ (g : Nat) (H : ByteArray), hv = .string H ∧ g ≤ FS.length ∧ Hid (H.data.toList ++ (ByteArray.empty).data.toList = catF (FS.drop g) ++ M.data.toList) ∧ Hid (OwnA wi wA.heap.size 1 gv g ((FS.take g).map Value.string)) ∧ Hid (Mod (fun _ => False) wA wi)) (fun _ hv _ _ _ _ => match hv with | .string s => s.size | _ => 0)
              case atStart => exact ⟨g, H1, rfl, hg, HH1, HG, ML⟩
              case round =>
                clear HG HH1 hg
                obtain ⟨g, H, rfl, hg, HH, HG, MI⟩ := hrel
                have hHs : H.size ≤ 12 * 8192 + 3 := by
                  have h1 := congrArg List.length HH.out
                  simp only [List.length_append, bsize] at h1
                  have h2 := catF_len (l := FS.drop g) fun f hf => (HFk.out f (List.mem_of_mem_drop hf)).2.1
                  have h3 : (FS.drop g).length ≤ 12 := by rw [List.length_drop]; omega
                  have := Nat.mul_le_mul_right 8192 h3
                  omega
                have hCt := cut_any H 8192 wr (by show _ ≤ 9223372036854775807; omega) (by decide)
                rcases cut_step H M (FS.drop g) (ByteArray.empty).data.toList (fun f hf => HFk.out f (List.mem_of_mem_drop hf)) hM HH.out with ⟨hc, hfs⟩ | ⟨f, r, H', hfs, hfr, hc, hH', hsz⟩
                · rw [hc] at hCt
                  have HF2 : Hid (k + 1 = pl + 1 → (ByteArray.empty).size = 0 ∧ FS.drop g = []) := fun h => by
                    have h0 := HYf.out (by omega)
                    exact ⟨by rw [← bsize, h0]; rfl, hfs h0⟩
                  clear hc hfs HYf
                  go_wp2_with fail
                  refine hCt.mono ?_
                  rintro e w4 ⟨rfl, m4⟩
                  go_wp2
                  go_roundw
                  case rel => exact ⟨k + 1, g, (ByteArray.empty), H, by omega, by go_num, rfl, rfl, hg, HH, HF2, HG.out.mod m4 fun _ _ x => x, MI.out.trans m4⟩
                  case measure => simp [intOf]; omega
                · rw [hc] at hCt
                  have f7 := hfr.1
                  have f8 := hfr.2.1
                  have qf : f.toList.isEmpty = false := by rw [empty_beq']; exact decide_eq_false (by omega)
                  have hgl : g < FS.length := by
                    have := congrArg List.length hfs
                    rw [List.length_drop, List.length_cons] at this
                    omega
                  have hdr : FS.drop (g + 1) = r := by rw [← List.drop_drop, hfs]; rfl
                  have htk : FS.take (g + 1) = FS.take g ++ [f] := by
                    have h1 : FS[g]? = some f := by
                      have := congrArg (fun l => l[0]?) hfs
                      simpa using this
                    obtain ⟨h2, rfl⟩ := List.getElem?_eq_some_iff.1 h1
                    exact List.take_succ_eq_append_getElem h2
                  have HT1 := Lib.hid htk
                  have HD1 : Hid (H'.data.toList ++ (ByteArray.empty).data.toList = catF (FS.drop (g + 1)) ++ M.data.toList) := by show _ = _; rw [hdr]; exact hH'
                  have hG := HG.out
                  have HHs := Lib.hid hsz
                  clear hc hfs hfr hdr htk hH' HH HG hsz
                  go_wp2_with (first
                    | (go_at_call 11; refine hCt.mono ?_; rintro e w4 ⟨rfl, m4⟩; have M4 := Lib.hid (MI.out.trans m4); have A1 : Hid (OwnA (w4.alloc (.cells #[.string f] 9)) wA.heap.size 1 u12 g ((FS.take g).map Value.string)) := hG.mod (m4.alloc _) (fun _ _ x => x); have A2 : Hid (Src Tryz.prog 1 25 (.slice (some ⟨w4.heap.size, 0, none⟩) 1 1) 1 [.string f] (w4.alloc (.cells #[.string f] 9))) := src_one f w4; have A3 : Hid ((g + 1) * 16 ≤ 140737488355328) := (show _ ≤ _ by omega); have A4 : Hid (g + 1 ≤ 9223372036854775807) := (show _ ≤ _ by omega); have A5 : Hid (wA.heap.size ≤ (w4.alloc (.cells #[.string f] 9)).heap.size) := Nat.le_trans M4.out.size (by rw [World.size_alloc]; omega); clear hCt hG m4)
                    | (refine wpl_append rfl (.tmp 109) (.tmp 111) _ _ rfl wA.heap.size 9 (.string { data := #[] }) 1 16 Tryz.underlying25 info_str rfl (by decide) u12 _ _ rfl A1.out _ _ _ rfl A2.out A3.out A4.out A5.out ?_; intro v' w6 hown' hgrow))
                  go_roundw
                  case rel =>
                    refine ⟨g + 1, H', rfl, hgl, HD1, ?_, ?_⟩
                    · show OwnA _ _ _ _ _ _
                      rw [HT1.out, List.map_append]
                      exact hown'
                    · exact A1.out.thenMod (M4.out.alloc _) hgrow (Nat.le_refl _)
                  case measure =>
                    have := HHs.out
                    show H'.size < H.size
                    omega
          · have t5 : decide ((k : Int) ≤ (pl : Int)) = false := by simp; omega
            obtain ⟨hA0, hdr⟩ := HE.out (by omega)
            have hgl : g = FS.length := by
              have := congrArg List.length hdr
              rw [List.length_drop, List.length_nil] at this
              omega
            subst hgl
            have hHM : H = M := by
              have h1 := HH.out
              rw [hdr, show A.data.toList = [] from List.eq_nil_of_length_eq_zero (by rw [bsize, hA0]), List.append_nil] at h1
              exact bytes_eq (h1.trans (by simp [catF]))
            subst hHM
            have hgt := HG.out.slAt
            rw [List.take_length] at hgt
            obtain ⟨a8, c8, rfl, hc8, hx8⟩ := hgt.form
            rw [List.length_map] at *
            have q6 : (H.toList == H.toList) = true := by simp
            have q7 : ((FS.length : Int) != (FS.length : Int)) = false := by simp
            clear HG HH HE hgt hdr hA0
            go_wp2
            clear q6 q7
            go_loopw [19] (fun i wq => ∃ (k : Nat), k ≤ FS.length ∧ i = .int .i64 k ∧ Hid (Mod (fun _ => False) wB wq)) (fun i _ => FS.length - (intOf i).toNat)
            case atStart => exact ⟨0, by omega, rfl, Lib.hid (Mod.refl _ _)⟩
            case round =>
              obtain ⟨k, hk', rfl, HM⟩ := hrel
              by_cases hlt : k < FS.length
              · obtain ⟨g1, o1, rfl, _, hg1, hd1⟩ := hx8 k _ (strs_get hlt)
                obtain ⟨g3, o3, rfl, _, hg3, hd3⟩ := hx7 k _ (strs_get hlt)
                have e1 := keepR HM.out hd1
                have e3 := keepR (ML.out.trans HM.out) hd3
                generalize FS[k] = f at *
                have t7 : decide ((k : Int) < (FS.length : Int)) = true := by simp; omega
                have i1 : (0 : Int) ≤ (k : Int) := by omega
                have i2 : (k : Int) < (FS.length : Int) := by omega
                have i3 : (FS.length : Int) ≤ (c7 : Int) := by omega
                have i4 : (FS.length : Int) ≤ (c8 : Int) := by omega
                clear hd1 hd3
                go_wp2
                go_quiet (fail)
                go_wp2
                go_roundw
                case rel => exact ⟨k + 1, hlt, by go_num, Lib.hid (by first | exact HM.out | exact HM.out.drewN _ | exact HM.out.drew)⟩
                case measure => simp [intOf]; omega
              · obtain rfl : k = FS.length := by omega
                have t7 : decide ((FS.length : Int) < (FS.length : Int)) = false := by simp
                go_wp2_with fail
                refine (hWk _ ((MM.out.trans ML.out).trans HM.out)).mono ?_
                rintro e w9 ⟨rfl, m9⟩
                go_wp2
                go_ret
                exact ⟨rfl, ((MM.out.trans ML.out).trans HM.out).trans m9⟩
end Go.Proofs.YtklpopmjpgdjnaaGreatDoor
