/- TagsOnce: whoever waits is told once. -/
import Derived.Test.YtcadkaedahoefaaPOnce
namespace Go.Proofs.Ytcadkaedahoefaa.tagsOnce
open Go.ChangeShapes Go.WideShapes Go.ChangeAt Go.RowKit

set_option maxRecDepth 100000 in
set_option maxHeartbeats 8000000 in
theorem walk (L O : List Nat) (vl vo : Value) (w : World) (hR : Reads (fun x : Nat => [.int .u8 x]) 1 w vl L) (hO : Reads (fun x : Nat => [.int .u8 x]) 1 w vo O) (hL : ∀ s ∈ L, s < 256) (hOl : ∀ s ∈ O, s < 256) :
    Calls Try.prog 3 #[vl, vo] w fun e w' => e = .returned (.bool true) ∧ Mod (fun _ => False) w w' := by
  have hW := works_any
  obtain ⟨a1, cap1, rfl, hlm1, hrd1⟩ := hR
  obtain ⟨a2, cap2, rfl, hlm2, hrd2⟩ := hO
  unfold maxLen at hlm1 hlm2
  by_cases h32 : 32 < L.length
  · have t1 : decide (32 < (L.length : Int)) = true := by simp; omega
    clear hrd1 hrd2 hL hOl
    go_enter Try.func3, Try.ntmps3
    go_wp2_with fail
    refine (hW _).mono ?_
    rintro e w9 ⟨rfl, m9⟩
    go_wp2
    go_ret
    exact ⟨rfl, m9⟩
  have t1 : decide (32 < (L.length : Int)) = false := by simp; omega
  by_cases h200 : 200 < O.length
  · have t2 : decide (200 < (O.length : Int)) = true := by simp; omega
    clear hrd1 hrd2 hL hOl
    go_enter Try.func3, Try.ntmps3
    go_wp2_with fail
    refine (hW _).mono ?_
    rintro e w9 ⟨rfl, m9⟩
    go_wp2
    go_ret
    exact ⟨rfl, m9⟩
  have t2 : decide (200 < (O.length : Int)) = false := by simp; omega
  obtain ⟨n, hn⟩ : ∃ n, L.length = n := ⟨_, rfl⟩
  obtain ⟨ws, hws⟩ : ∃ ws : Nat → Nat, ∀ i (h : i < L.length), ws i = L[i] := ⟨fun i => L[i]?.getD 0, fun i h => by simp [h]⟩
  have hcw : ∀ i, i < n → ∃ g off, a1 = some ⟨g, off, none⟩ ∧ g < w.heap.size ∧ w.cell? ⟨g, off + i, none⟩ = some (.int .u8 (ws i)) := fun i hi => by
    obtain ⟨g, off, ha, hg, hc⟩ := hrd1 i (by omega)
    have := hc 0 _ rfl
    exact ⟨g, off, ha, hg, by rw [hws i (by omega)]; simpa using this⟩
  have hw256 : ∀ i, i < n → ws i < 256 := fun i hi => by rw [hws i (by omega)]; exact hL _ (List.getElem_mem _)
  rw [hn] at t1 h32 ⊢
  have hn32 : n ≤ 32 := by omega
  have HCw := Lib.hid hcw
  have H256 := Lib.hid hw256
  have HRo := Lib.hid hrd2
  have HO := Lib.hid hOl
  clear hrd1 hrd2 hL hOl hws hcw hw256 hlm1 hn h32
  have hN := newtags_any 32 w
  have hbm : badMost 32 = false := rfl
  rw [hbm] at hN
  have tt : ∀ x : Int, (x != x) = false := fun x => by simp
  have tb : ∀ x : Bool, (x != x) = false := fun x => by simp
  go_enter Try.func3, Try.ntmps3
  go_wp2_with fail
  refine hN.mono ?_
  rintro e w1 ⟨_, hx⟩
  obtain ⟨rfl, hw1⟩ := hx (by first | rfl | trivial)
  have HT1 : Hid (TagsAt 74 w1 (· = w.heap.size) w.heap.size ⟨List.range 0, [], 32⟩) := by rw [hw1]; exact ⟨_, _, TagsP.made w 32⟩
  have HM1 : Hid (Mod (fun _ => False) w w1) := by rw [hw1]; exact (Mod.refl _ _).alloc _
  clear hN hx hw1 hbm
  go_wp2
  go_loopw [8] (fun i wr => ∃ (k : Nat) (F : Nat → Prop), k ≤ n ∧ i = .int .i64 k ∧ Hid (TagsAt 74 wr F w.heap.size ⟨List.range k, [], 32⟩) ∧ Hid (∀ j, F j → w.heap.size ≤ j) ∧ Hid (Mod (fun _ => False) w wr)) (fun i _ => n - (intOf i).toNat)
  case atStart => exact ⟨0, _, Nat.zero_le _, rfl, HT1, fun j hj => by omega, HM1⟩
  case round =>
    obtain ⟨k, F, hk, rfl, HT, HF, HM⟩ := hrel
    by_cases hlt : k < n
    · have t5 : decide ((k : Int) < (n : Int)) = true := by simp; omega
      have hC := begin_any wr F w.heap.size k _ HT.out (by simp; omega)
      rw [begin_range k n hlt hn32] at hC
      have j1 : ((k : Int)) % 65536 = k := by omega
      have j2 : IntKind.u16.wrap (k : Int) = k := by rw [IntKind.wrap_u16]; omega
      go_wp2_with fail
      refine hC.mono ?_
      rintro e w4 ⟨rfl, F1, g1, q1, k1⟩
      have HT2 := Lib.hid g1
      have HF2 : Hid (∀ j, F1 j → w.heap.size ≤ j) := k1.above HF.out HM.out.size
      have HM2 : Hid (Mod (fun _ => False) w w4) := HM.out.trans' q1 fun j hj x => by have := HF.out j x; omega
      clear hC g1 q1 k1 HT HF HM
      go_wp2
      go_roundw
      case rel => exact ⟨k + 1, F1, hlt, by go_num, HT2, HF2, HM2⟩
      case measure => simp [intOf]; omega
    · obtain rfl : n = k := by omega
      have t5 : decide ((n : Int) < (n : Int)) = false := by simp
      have HFO : FOnce n ws 0 ⟨List.range n, [], 32⟩ := FOnce.start n ws 32
      have hmk1 := make_rowI (P := Try.prog) 32 3 (.int .i64 0) 8 n (n : Int) rfl Try.underlying32 info_int rfl (by omega) (by unfold maxLen; omega)
      have hmk2 := make_rowI (P := Try.prog) 33 4 (.bool false) 1 n (n : Int) rfl Try.underlying33 info_bool rfl (by omega) (by unfold maxLen; omega)
      rw [mrow_zero] at hmk1 hmk2
      clear HT1 HM1
      go_wp2
      go_loopw [9] (fun i wr => ∃ (k : Nat) (s : TS) (F : Nat → Prop), k ≤ n ∧ i = .int .i64 k ∧ Hid (TagsAt 74 wr F w.heap.size s) ∧ Hid (FOnce n ws k s) ∧ Hid (∀ j, F j → w.heap.size ≤ j) ∧ Hid (Mod (fun _ => False) w wr)) (fun i _ => n - (intOf i).toNat)
      case atStart => exact ⟨0, _, F, Nat.zero_le _, rfl, HT, HFO, HF, HM⟩
      case round =>
        clear HT HF HM HFO
        obtain ⟨k, s, F, hk, rfl, HT, HFO, HF, HM⟩ := hrel
        by_cases hlt : k < n
        · clear hmk1 hmk2 t5
          have t5 : decide ((k : Int) < (n : Int)) = true := by simp; omega
          obtain ⟨g, off, rfl, hg, hc⟩ := HCw.out k hlt
          have h256 := H256.out k hlt
          have hC := flush_any wr F w.heap.size k (ws k) s HT.out (by have := HFO.out.ll; omega) (by have := HFO.out.wl; omega)
          obtain ⟨hf1, hf2⟩ := HFO.out.step hlt
          rw [hf1] at hC
          have HFO2 := Lib.hid hf2
          generalize (flushS s k (ws k)).1 = s' at hC HFO2
          clear hf1 hf2
          have c0 := keepR HM.out hc
          obtain ⟨y, hy⟩ : ∃ y, ws k = y := ⟨_, rfl⟩
          rw [hy] at hC c0 h256 hc
          have HC0 := Lib.hid hc
          clear hy hc
          have j1 : ((k : Int)) % 65536 = k := by omega
          have j2 : IntKind.u16.wrap (k : Int) = k := by rw [IntKind.wrap_u16]; omega
          have j3 : ((y : Int)) % 65536 = y := by omega
          have j4 : IntKind.u16.wrap (y : Int) = y := by rw [IntKind.wrap_u16]; omega
          have j5 : (0 : Int) ≤ (k : Int) := by omega
          have j6 : (k : Int) < (n : Int) := by omega
          by_cases hA : y < n
          · have u1 : decide ((y : Int) < (n : Int)) = true := by simp; omega
            have v1 : decide (y < n) = true := by simp [hA]
            by_cases hB : y = k
            · have u2 : ((y : Int) != (k : Int)) = false := by simp; omega
              have v2 : decide (y = k) = true := by simp [hB]
              rw [v1, v2] at hC
              clear hA hB v2
              go_wp2_with fail
              refine hC.mono ?_
              rintro e w4 ⟨rfl, F1, g1, q1, k1⟩
              have HT2 := Lib.hid g1
              have HF2 : Hid (∀ j, F1 j → w.heap.size ≤ j) := k1.above HF.out HM.out.size
              have HM2 : Hid (Mod (fun _ => False) w w4) := HM.out.trans' q1 fun j hj x => by have := HF.out j x; omega
              have c1 := keepR HM2.out HC0.out
              clear hC g1 q1 k1 HT HF HM c0
              go_wp2
              go_roundw
              case rel => exact ⟨k + 1, s', F1, hlt, by go_num, HT2, HFO2, HF2, HM2⟩
              case measure => simp [intOf]; omega
            · have u2 : ((y : Int) != (k : Int)) = true := by simp; omega
              have v2 : decide (y = k) = false := by simp [hB]
              rw [v1, v2] at hC
              clear hA hB v2
              go_wp2_with fail
              refine hC.mono ?_
              rintro e w4 ⟨rfl, F1, g1, q1, k1⟩
              have HT2 := Lib.hid g1
              have HF2 : Hid (∀ j, F1 j → w.heap.size ≤ j) := k1.above HF.out HM.out.size
              have HM2 : Hid (Mod (fun _ => False) w w4) := HM.out.trans' q1 fun j hj x => by have := HF.out j x; omega
              have c1 := keepR HM2.out HC0.out
              clear hC g1 q1 k1 HT HF HM c0
              go_wp2
              go_roundw
              case rel => exact ⟨k + 1, s', F1, hlt, by go_num, HT2, HFO2, HF2, HM2⟩
              case measure => simp [intOf]; omega
          · have u1 : decide ((y : Int) < (n : Int)) = false := by simp; omega
            have v1 : decide (y < n) = false := by simp [hA]
            rw [v1] at hC
            clear hA
            go_wp2_with fail
            refine hC.mono ?_
            rintro e w4 ⟨rfl, F1, g1, q1, k1⟩
            have HT2 := Lib.hid g1
            have HF2 : Hid (∀ j, F1 j → w.heap.size ≤ j) := k1.above HF.out HM.out.size
            have HM2 : Hid (Mod (fun _ => False) w w4) := HM.out.trans' q1 fun j hj x => by have := HF.out j x; omega
            have c1 := keepR HM2.out HC0.out
            clear hC g1 q1 k1 HT HF HM c0
            go_wp2
            go_roundw
            case rel => exact ⟨k + 1, s', F1, hlt, by go_num, HT2, HFO2, HF2, HM2⟩
            case measure => simp [intOf]; omega
        · obtain rfl : n = k := by omega
          have HP : Hid (POnce n ws s (fun _ => false) (fun _ => 0)) := HFO.out.done
          obtain ⟨W1, hW1⟩ : ∃ W1, wr.alloc (.cells (mrow (fun _ => .int .i64 0) n).toArray 3) = W1 := ⟨_, rfl⟩
          obtain ⟨W2, hW2⟩ : ∃ W2, W1.alloc (.cells (mrow (fun _ => .bool false) n).toArray 4) = W2 := ⟨_, rfl⟩
          obtain ⟨bt, hbt⟩ : ∃ bt, wr.heap.size = bt := ⟨_, rfl⟩
          obtain ⟨be, hbe⟩ : ∃ be, W1.heap.size = be := ⟨_, rfl⟩
          have hs1 : W1.heap.size = wr.heap.size + 1 := by rw [← hW1, World.size_alloc]
          have HOW : Hid (OW w W2 w.heap.size bt be n s (fun _ => false) (fun _ => 0) F) := by
            have m1 : Mod (fun _ => False) wr W1 := by rw [← hW1]; exact (Mod.refl _ _).alloc _
            have m2 : Mod (fun _ => False) W1 W2 := by rw [← hW2]; exact (Mod.refl _ _).alloc _
            have hz := HM.out.size
            have hlt := HT.out.lt
            refine ⟨HT.out.mod (m1.trans m2) (fun _ x => x.elim), HF.out, fun x => by have := hlt bt x; omega, fun x => by have := hlt be x; omega, by omega, by omega, by omega, ?_, ?_, HM.out.trans (m1.trans m2)⟩
            · refine (m2.block bt (by omega) id).trans ?_
              rw [← hbt, ← hW1]; exact new_at _ _
            · rw [← hbe, ← hW2]; exact new_at _ _
          clear HT HF HM HFO hs1
          go_wp2
          clear hmk1 hmk2 hW1 hW2 hbt hbe t5
          go_loopw [14] (fun i wr => ∃ (j : Nat) (F : Nat → Prop) (s : TS) (E : Nat → Bool) (τ : Nat → Int), j ≤ O.length ∧ i = .int .i64 j ∧ Hid (OW w wr w.heap.size bt be n s E τ F) ∧ Hid (POnce n ws s E τ)) (fun i _ => O.length - (intOf i).toNat)
          case atStart => exact ⟨0, F, s, _, _, Nat.zero_le _, rfl, HOW, HP⟩
          case round =>
            clear HOW HP
            obtain ⟨j, F, s, E, τ, hj, rfl, HOW, HP⟩ := hrel
            by_cases hlt : j < O.length
            · have t5 : decide ((j : Int) < (O.length : Int)) = true := by simp; omega
              obtain ⟨g, off, rfl, hg, hc⟩ := HRo.out j hlt
              have hx256 := HO.out O[j] (List.getElem_mem hlt)
              have c0 := keepR HOW.out.m (hc 0 _ rfl)
              simp only [Nat.mul_one, Nat.add_zero] at c0
              generalize O[j] = x at c0 hx256
              clear hc
              have hC := end_any wr F w.heap.size x s HOW.out.c (by have := HP.out.ll; omega) (by have := HP.out.wl; omega)
              have hG : Hid (bt < wr.heap.size ∧ be < wr.heap.size) := ⟨lt_of HOW.out.T, lt_of HOW.out.En⟩
              have j1 : ((x : Int)) % 65536 = x := by omega
              have j2 : IntKind.u16.wrap (x : Int) = x := by rw [IntKind.wrap_u16]; omega
              have j3 : (0 : Int) ≤ (j : Int) := by omega
              have j4 : (j : Int) < (O.length : Int) := by omega
              by_cases hxn : x < n
              · have u1 : decide ((n : Int) ≤ (x : Int)) = false := by simp; omega
                have v1 : decide (n ≤ x) = false := by simp; omega
                have HXn := Lib.hid hxn
                have j5 : (0 : Int) ≤ (x : Int) := by omega
                have j6 : (x : Int) < (n : Int) := by omega
                cases hE : E x with
                | true =>
                  rw [HP.out.none (Or.inr hE)] at hC
                  go_wp2_with fail
                  refine hC.mono ?_
                  rintro e w4 ⟨v, rfl, hv, F1, g1, q1, k1⟩
                  have hv' : SlAt w4 (wr.heap.size ≤ ·) v (u16s []) := hv
                  obtain ⟨va, vc, hv2, _, _⟩ := hv'.form
                  have hv3 : v = .slice va 0 vc := hv2
                  subst hv3
                  have HOW4 : Hid (OW w w4 w.heap.size bt be n s E τ F1) := HOW.out.step g1 q1 k1
                  have b1 : w4.cell? ⟨be, x, none⟩ = some (.bool true) := by rw [HOW4.out.cE x HXn.out, hE]
                  clear hC hv hv' hv2 g1 q1 k1 HOW c0 hG
                  go_wp2
                  go_roundw
                  case rel => exact ⟨j + 1, F1, s, E, τ, hlt, by go_num, HOW4, HP⟩
                  case measure => simp [intOf]; omega
                | false =>
                  obtain ⟨s', Lt, he, hTo, hP2⟩ := HP.out.fin hxn hE
                  rw [he] at hC
                  have HTo := Lib.hid hTo
                  have HP2 := Lib.hid hP2
                  clear he hTo hP2
                  go_wp2_with fail
                  refine hC.mono ?_
                  rintro e w4 ⟨v, rfl, hv, F1, g1, q1, k1⟩
                  have hv' : SlAt w4 (wr.heap.size ≤ ·) v (u16s Lt) := hv
                  obtain ⟨va, vc, hv2, _, _⟩ := hv'.form
                  rw [u16s_length] at hv2
                  subst hv2
                  have HOW4 : Hid (OW w w4 w.heap.size bt be n s' E τ F1) := HOW.out.step g1 q1 k1
                  have b1 : w4.cell? ⟨be, x, none⟩ = some (.bool false) := by rw [HOW4.out.cE x HXn.out, hE]
                  have f1 : w4.frozen? ⟨be, x, none⟩ = false := free_of HOW4.out.En x
                  have HOW5 := Lib.hid (HOW4.out.setE x HXn.out)
                  have HV5 : Hid (SlAt (w4.setCell ⟨be, x, none⟩ (.bool true)) (bt < ·) (.slice va Lt.length vc) (u16s Lt)) :=
                    (hv'.mod (Mod.set1 w4 be x (.bool true)) (fun g hg _ e => by have := hG.out.2; omega)).imp fun g hg => by have := hG.out.1; omega
                  obtain ⟨W5, hW5⟩ : ∃ W5, w4.setCell ⟨be, x, none⟩ (.bool true) = W5 := ⟨_, rfl⟩
                  rw [hW5] at HOW5 HV5
                  clear hC hv hv' g1 q1 k1 HOW c0 hG HOW4 hE HP hx256
                  go_wp2
                  clear hW5 b1 f1
                  go_loopw [18] (fun i wr2 => ∃ (m : Nat), m ≤ Lt.length ∧ i = .int .i64 m ∧ Hid (OW w wr2 w.heap.size bt be n s' (updE E x) (updT τ Lt m) F1) ∧ Hid (SlAt wr2 (bt < ·) (.slice va Lt.length vc) (u16s Lt))) (fun i _ => Lt.length - (intOf i).toNat)
                  case atStart => exact ⟨0, Nat.zero_le _, rfl, by rw [updT_zero]; exact HOW5, HV5⟩
                  case round =>
                    clear HOW5 HV5
                    obtain ⟨m, hm, rfl, HOWm, HVm⟩ := hrel
                    by_cases hlm : m < Lt.length
                    · have t6 : decide ((m : Int) < (Lt.length : Int)) = true := by simp; omega
                      have t7 : decide (m < Lt.length) = true := by simp; omega
                      have hLl := HTo.out.len
                      obtain ⟨d1, d2, d3, d4⟩ := HTo.out.at_ m hlm
                      have hst := HTo.out.step m hlm
                      obtain ⟨a', c', hv2, _, hx2⟩ := HVm.out.form
                      obtain ⟨g2, o2, ha, hgb, hgl, cc⟩ := hx2 m _ (u16s_get hlm)
                      injection hv2 with e1 e2 e3
                      subst ha
                      subst e1
                      generalize Lt[m] = y at d1 d2 d3 d4 hst cc
                      obtain ⟨gw, ow, rfl, _, hcy⟩ := HCw.out y d1
                      have c1 := keepR HOWm.out.m hcy
                      rw [d3] at c1
                      have cE : wr.cell? ⟨be, y, none⟩ = some (.bool false) := by rw [HOWm.out.cE y d1, d2]
                      have cT : wr.cell? ⟨bt, y, none⟩ = some (.int .i64 0) := by rw [HOWm.out.cT y d1, d4]
                      have fT : wr.frozen? ⟨bt, y, none⟩ = false := free_of HOWm.out.T y
                      have HOWn := Lib.hid (HOWm.out.setT y d1 1 (updT τ Lt (m + 1)) hst)
                      have HVn := Lib.hid (HVm.out.mod (Mod.set1 wr bt y (.int .i64 1)) (fun g (hg : bt < g) _ e => by omega))
                      have u5 : decide ((n : Int) ≤ (y : Int)) = false := by simp; omega
                      have v5 : decide (n ≤ y) = false := by simp; omega
                      have i5 : (0 : Int) ≤ (y : Int) := by omega
                      have i6 : (y : Int) < (n : Int) := by omega
                      have i7 : (0 : Int) ≤ (m : Int) := by omega
                      have i8 : (m : Int) < (Lt.length : Int) := by omega
                      clear hcy d2 d3 d4 hst hx2 e2 e3 HVm HOWm d1 hgb hgl
                      go_wp2
                      go_roundw
                      case rel => exact ⟨m + 1, hlm, by go_num, HOWn, HVn⟩
                      case measure => simp [intOf]; omega
                    · obtain rfl : m = Lt.length := by omega
                      have t6 : decide ((Lt.length : Int) < (Lt.length : Int)) = false := by simp
                      go_wp2
                      go_roundw
                      case rel => exact ⟨j + 1, F1, s', updE E x, updT τ Lt Lt.length, hlt, by go_num, HOWm, HP2⟩
                      case measure => simp [intOf]; omega
              · have u1 : decide ((n : Int) ≤ (x : Int)) = true := by simp; omega
                have v1 : decide (n ≤ x) = true := by simp; omega
                rw [HP.out.none (Or.inl (by omega))] at hC
                clear hxn
                go_wp2_with fail
                refine hC.mono ?_
                rintro e w4 ⟨v, rfl, hv, F1, g1, q1, k1⟩
                have hv' : SlAt w4 (wr.heap.size ≤ ·) v (u16s []) := hv
                obtain ⟨va, vc, hv2, _, _⟩ := hv'.form
                have hv3 : v = .slice va 0 vc := hv2
                subst hv3
                have HOW4 : Hid (OW w w4 w.heap.size bt be n s E τ F1) := HOW.out.step g1 q1 k1
                skip
                clear hC hv hv' hv2 g1 q1 k1 HOW c0 hG
                go_wp2
                go_roundw
                case rel => exact ⟨j + 1, F1, s, E, τ, hlt, by go_num, HOW4, HP⟩
                case measure => simp [intOf]; omega
            · obtain rfl : j = O.length := by omega
              have t5 : decide ((O.length : Int) < (O.length : Int)) = false := by simp
              clear HRo HO hj hlt
              go_wp2
              go_loopw [20] (fun i wr2 => ∃ (m : Nat), m ≤ n ∧ i = .int .i64 m ∧ wr2 = wr) (fun i _ => n - (intOf i).toNat)
              case atStart => exact ⟨0, Nat.zero_le _, rfl, rfl⟩
              case round =>
                obtain ⟨m, hm, rfl, rfl⟩ := hrel
                by_cases hlm : m < n
                · have t6 : decide ((m : Int) < (n : Int)) = true := by simp; omega
                  have i7 : (0 : Int) ≤ (m : Int) := by omega
                  have i8 : (m : Int) < (n : Int) := by omega
                  obtain ⟨gw, ow, rfl, _, hcy⟩ := HCw.out m hlm
                  have c1 := keepR HOW.out.m hcy
                  have cE := HOW.out.cE m hlm
                  have cT := HOW.out.cT m hlm
                  have ht0 := HP.out.t0 m
                  have ht1 := HP.out.t1 m
                  have ht2 := HP.out.t2 m hlm
                  have cW := HOW.out.cE (ws m)
                  have h256 := H256.out m hlm
                  unfold mustT at ht1 ht2
                  clear hcy
                  obtain ⟨y, hy⟩ : ∃ y, ws m = y := ⟨_, rfl⟩
                  rw [hy] at c1 ht1 ht2 cW h256
                  obtain ⟨tm, htm⟩ : ∃ tm, τ m = tm := ⟨_, rfl⟩
                  rw [htm] at cT ht0 ht1 ht2
                  obtain ⟨ew, hew⟩ : ∃ ew, E y = ew := ⟨_, rfl⟩
                  rw [hew] at ht1 ht2 cW
                  obtain ⟨em, hem⟩ : ∃ em, E m = em := ⟨_, rfl⟩
                  rw [hem] at cE ht2
                  clear hy htm hew hem
                  by_cases hA : y < n
                  · have u5 : decide ((y : Int) < (n : Int)) = true := by simp; omega
                    have v5 : decide (y < n) = true := by simp; omega
                    have i5 : (0 : Int) ≤ (y : Int) := by omega
                    have i6 : (y : Int) < (n : Int) := by omega
                    have cW := cW hA
                    by_cases hB : y = m
                    · have u6 : ((y : Int) != (m : Int)) = false := by simp; omega
                      have h0 : tm = 0 := ht0.elim id fun e => absurd hB (ht1 e).2.1
                      subst h0
                      clear hA hB cW
                      clear ht0 ht1 ht2
                      go_wp2
                      go_roundw
                      case rel => exact ⟨m + 1, hlm, by go_num, by trivial⟩
                      case measure => simp [intOf]; omega
                    · have u6 : ((y : Int) != (m : Int)) = true := by simp; omega
                      cases ew with
                      | false =>
                        have h0 : tm = 0 := ht0.elim id fun e => absurd (ht1 e).2.2 (by decide)
                        subst h0
                        clear hA hB
                        clear ht0 ht1 ht2
                        go_wp2
                        go_roundw
                        case rel => exact ⟨m + 1, hlm, by go_num, by trivial⟩
                        case measure => simp [intOf]; omega
                      | true =>
                        cases em with
                        | true =>
                          rcases ht0 with rfl | rfl
                          · clear hA hB
                            have ht0 := True.intro
                            clear ht0 ht1 ht2
                            go_wp2
                            go_roundw
                            case rel => exact ⟨m + 1, hlm, by go_num, by trivial⟩
                            case measure => simp [intOf]; omega
                          · clear hA hB
                            have ht0 := True.intro
                            clear ht0 ht1 ht2
                            go_wp2
                            go_roundw
                            case rel => exact ⟨m + 1, hlm, by go_num, by trivial⟩
                            case measure => simp [intOf]; omega
                        | false =>
                          have h0 : tm = 1 := ht2 ⟨hA, hB, rfl⟩ rfl
                          subst h0
                          clear hA hB
                          clear ht0 ht1 ht2
                          go_wp2
                          go_roundw
                          case rel => exact ⟨m + 1, hlm, by go_num, by trivial⟩
                          case measure => simp [intOf]; omega
                  · have u5 : decide ((y : Int) < (n : Int)) = false := by simp; omega
                    have v5 : decide (y < n) = false := by simp; omega
                    have h0 : tm = 0 := ht0.elim id fun e => absurd (ht1 e).1 hA
                    subst h0
                    clear hA cW
                    clear ht0 ht1 ht2
                    go_wp2
                    go_roundw
                    case rel => exact ⟨m + 1, hlm, by go_num, by trivial⟩
                    case measure => simp [intOf]; omega
                · obtain rfl : n = m := by omega
                  have t6 : decide ((n : Int) < (n : Int)) = false := by simp
                  go_wp2_with fail
                  refine (hW _).mono ?_
                  rintro e w9 ⟨rfl, m9⟩
                  go_wp2
                  go_ret
                  exact ⟨rfl, HOW.out.m.trans m9⟩

set_option maxRecDepth 100000 in
theorem contract (H : Type) (enc : TypeId × Value → H) (W : World) (base : Nat) (args : Array Value) (ds gs : List (DataW H)) (before : List MemPlace)
    (hval : ∀ (j : Nat) t v, Try.f3.params[j]? = some t → args[j]? = some v → Value.okWide Try.prog W .any base t v)
    (hW : DataW.Whole enc Try.prog Try.f3.params.toList Rows.tagsOnceSpec.vars false W args.toList ds gs before) :
    Calls Try.prog 3 args W fun e W' => ∃ v, e = .returned v ∧ Rows.tagsOnceSpec.post enc Try.prog Try.f3 false true false false W args v W' := by
  have hW' := hW
  obtain ⟨p, q, hA0, hV, rfl, hfz, hnd⟩ := hW
  have hA : DataW.TrodAll enc Try.prog W 0 (fun _ => true) true Try.f3.params.toList args.toList ds p := hA0
  rw [Try.params3] at hA hval
  obtain ⟨v0, vs0, d0, ds0, p0, q0, hargs, rfl, rfl, h0, r0⟩ := trodAll_cons hA
  obtain ⟨v1, vs1, d1, ds1, p1, q1, hargs1, rfl, rfl, h1, r1⟩ := trodAll_cons r0
  obtain ⟨rfl, rfl, rfl⟩ := trodAll_nil r1
  obtain rfl : args = #[v0, v1] := by cases args; simp_all
  obtain ⟨rfl, rfl⟩ := trodVars_none hV
  obtain ⟨l, hR, hok⟩ := arg_u8s (hval 0 22 v0 rfl rfl) h0
  obtain ⟨o, hO, hoo⟩ := arg_u8s (hval 1 22 v1 rfl rfl) h1
  clear hA0
  simp only [List.append_nil] at hW'
  refine (walk l o v0 v1 W hR hO hok hoo).mono fun e W' ⟨he, hg⟩ => ?_
  subst he
  exact ⟨_, rfl, law_post hW' hg (by kernel_rfl) rfl rfl rfl rfl rfl⟩
set_option maxRecDepth 100000 in
theorem lifted (os : Os) (started : os.Started) (H : Type) (enc : TypeId × Value → H) :
    ReturnsInHanded {} Try.checked os 3 .any (Rows.tagsOnceSpec.pre6 enc Try.prog Try.f3 Rows.tagsOnceRow.domain false) (Rows.tagsOnceSpec.post enc Try.prog Try.f3 false true false false) := by
  refine returnsInHanded_of_change (C := Try.checked) own_knob started (by kernel_rfl) Try.func3
    (ChangeSpec.witness6 (enc := enc) (C := Try.checked) false ⟨#[], #[.slice none 0 0, .slice none 0 0], []⟩ 8 (by kernel_rfl) (by kernel_rfl) (by kernel_rfl) (by kernel_rfl)) ?_
  intro W base args ds gs before hval hW _ _
  exact contract H enc W base args ds gs before hval hW

theorem proved : Rows.TagsOnceSaid :=
  OpenClaim.holds_of_wide 3 Try.f3 rfl rfl rfl rfl rfl rfl rfl ⟨rfl, rfl, rfl, rfl, rfl⟩ rfl rfl rfl rfl rfl (by kernel_rfl) Try.func3 (by kernel_rfl)
    (of_decide_eq_true (by kernel_rfl)) (by unfold Func.isWrapper; first | (rw [if_pos (by decide +kernel)]; kernel_rfl) | (rw [if_neg (by decide +kernel)]; exact ⟨rfl, rfl⟩))
    (fun os started H enc _ => lifted os started H enc)
end Go.Proofs.Ytcadkaedahoefaa.tagsOnce
