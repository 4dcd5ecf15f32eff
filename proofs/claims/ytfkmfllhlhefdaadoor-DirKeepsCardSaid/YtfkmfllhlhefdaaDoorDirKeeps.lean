/- DirKeeps. -/
import Derived.Test.YtfkmfllhlhefdaaDoorLawDir
import Derived.Test.YtfkmfllhlhefdaaDoorLawChange
import Derived.Test.YtfkmfllhlhefdaaDoorDirKept
import Derived.Deep.DeepCutAuto
namespace Go.Proofs.YtfkmfllhlhefdaaDoor.dirKeeps
open Go.ChangeShapes Go.WideShapes Go.ChangeAt Go.RowKit

theorem wrap_up {l : Nat} (h : l ≤ 4480) : IntKind.i64.wrap ((l : Int) + 1) = (l : Int) + 1 := by rw [IntKind.wrap_i64]; omega
theorem wrap_dn {l : Nat} (h : l ≤ 4480) : IntKind.i64.wrap ((l : Int) - 1) = (l : Int) - 1 := by rw [IntKind.wrap_i64]; omega
theorem dir_small {s : ByteArray} (h : IsDir s) : s.size ≤ 1099511627776 := by have := h.size.2; omega
set_option maxRecDepth 100000 in
set_option maxHeartbeats 4000000 in
theorem walk (s n o : ByteArray) (p : Nat) (w : World) (hs : s.size ≤ 9223372036854775807) (hn : n.size ≤ 9223372036854775807) (ho : o.size ≤ 9223372036854775807) (hp : p < 18446744073709551616) (hT0 : Tabs w) :
    Calls Tryd.prog 7 #[.agg #[.string s, .string n, .string o, .int .u64 p]] w fun e w' => e = .returned (.bool true) ∧ Mod (fun _ => False) w w' := by
  have hH := fun U => heavy_any s n o U hs hn ho
  have hW := works_any
  obtain ⟨W1, hW1⟩ : ∃ W1, w.alloc (.cells #[.string s, .string n, .string o, .int .u64 p] 24) = W1 := ⟨_, rfl⟩
  have hB : W1.heap[w.heap.size]? = some (.cells #[.string s, .string n, .string o, .int .u64 p] 24 (0, 0)) := by subst hW1; exact new_at _ _
  have m1 : Mod (fun _ => False) w W1 := by subst hW1; exact (Mod.refl _ _).alloc _
  have hT := hT0.mod m1
  have c0 : (W1).cell? ⟨w.heap.size, 0, none⟩ = some (.string s) := (cell_of hB 0).trans rfl
  have c1 : (W1).cell? ⟨w.heap.size, 1, none⟩ = some (.string n) := (cell_of hB 1).trans rfl
  have c2 : (W1).cell? ⟨w.heap.size, 2, none⟩ = some (.string o) := (cell_of hB 2).trans rfl
  have c3 : (W1).cell? ⟨w.heap.size, 3, none⟩ = some (.int .u64 p) := (cell_of hB 3).trans rfl
  clear hB
  by_cases hh : heavyS s n o = true
  · rw [hh] at hH
    go_enter Tryd.func7, Tryd.ntmps7
    go_wp2_with fail
    refine (hH _).mono ?_
    rintro e w1 ⟨rfl, rfl⟩
    go_wp2_with fail
    refine (hW _ hT).mono ?_
    rintro e w2 ⟨rfl, m2⟩
    go_wp2
    go_ret
    exact ⟨rfl, m1.trans m2⟩
  have hh : heavyS s n o = false := by simpa using hh
  rw [hh] at hH
  have hsz : s.size ≤ 4480 ∧ n.size ≤ 4096 ∧ o.size ≤ 4096 := by
    unfold heavyS at hh
    simp only [Bool.or_eq_false_iff, decide_eq_false_iff_not] at hh
    omega
  obtain ⟨hs1, hn1, ho1⟩ := hsz
  clear hh hs hn ho
  have hCh := fun U => check_any s U (by omega)
  cases hl : listS s with
  | none =>
    rw [hl] at hCh
    simp only [okE, Option.isSome_none, Bool.false_eq_true, if_false] at hCh
    clear hl
    go_enter Tryd.func7, Tryd.ntmps7
    go_wp2_with fail
    refine (hH _).mono ?_
    rintro e w1 ⟨rfl, rfl⟩
    go_wp2_with fail
    refine (hCh _ hT).mono ?_
    rintro e w2 ⟨rfl, m2⟩
    go_wp2_with fail
    refine (hW _ (hT.mod m2)).mono ?_
    rintro e w3 ⟨rfl, m3⟩
    go_wp2
    go_ret
    exact ⟨rfl, (m1.trans m2).trans m3⟩
  | some l =>
    have hLi := fun U => list_any s U (by omega)
    obtain ⟨hd, hll⟩ := listS_iff.1 hl
    rw [hl] at hCh hLi
    simp only [okE, Option.isSome_some, if_true, Option.getD_some] at hCh hLi
    have hct : countS s = l.length := by rw [hd.count, hll]
    have hlen : l.length ≤ 4480 := by
      rw [hll]
      have := ents_length (slotsL s) 0
      have h2 := List.countP_le_length (p := fun x => decide (x ≠ freeB)) (l := slotsL s)
      rw [slotsL_length] at h2
      show (entsF (slotsL s) 0).length ≤ _
      omega
    have hnl : ∀ e ∈ l, e.name.size ≤ 1099511627776 := by
      rw [hll]
      intro e he
      have := nameOk_size (hd.mem he).2.1
      omega
    have hPu := fun U => put_any s n p U (by omega) (by omega) hp
    have hDr := fun U => drop_any s n U (by omega) (by omega)
    have hRe := fun U => rename_any s n o U (by omega) (by omega) (by omega)
    have hFo := fun U => find_any s n U (by omega) (by omega)
    have kp := keep_put (s := s) (n := n) (p := p) hp
    have kr := keep_ren (s := s) (o := n) (n := o)
    have kd := keep_drop (s := s) (n := n)
    rw [hct, ← hll] at kp kr kd
    generalize putS s n p = A at *
    generalize dropS s n = B at *
    generalize renS s n o = C at *
    generalize findS s n = F at *
    obtain ⟨a1, a2, a3⟩ := A
    obtain ⟨b1, b2, b3⟩ := B
    obtain ⟨r1, r2, r3⟩ := C
    obtain ⟨f1, f2⟩ := F
    unfold putV at hPu hDr hRe
    simp only at hPu hDr hRe hFo kp kr kd
    have kp := Lib.hid kp
    have kr := Lib.hid kr
    have kd := Lib.hid kd
    have hwu := wrap_up hlen
    have hwd := wrap_dn hlen
    have HL := Lib.hid (And.intro hlen hnl)
    clear hl hll hd hct hlen hnl
    have tt : ∀ a : Int, (a != a) = false := fun a => by simp
    have hx : (l.length : Int) ≠ (l.length : Int) + 1 := by omega
    go_enter Tryd.func7, Tryd.ntmps7
    go_wp2_with fail
    refine (hH _).mono ?_
    rintro e w1 ⟨rfl, rfl⟩
    go_wp2_with fail
    refine (hCh _ hT).mono ?_
    rintro e w2 ⟨rfl, m2⟩
    have c0 := keepR m2 c0
    have c1 := keepR m2 c1
    have c2 := keepR m2 c2
    have c3 := keepR m2 c3
    go_wp2_with fail
    refine (hLi _ (hT.mod m2)).mono ?_
    rintro e V ⟨v, rfl, hE, m3⟩
    have hE : EntsAt V (fun _ => True) v l := hE.imp fun _ _ => trivial
    obtain ⟨va, vc, hv, _, _⟩ := hE.form
    subst hv
    replace c0 := keepR m3 c0
    replace c1 := keepR m3 c1
    replace c2 := keepR m3 c2
    replace c3 := keepR m3 c3
    have HW := Lib.hid ((m1.trans m2).trans m3)
    replace hT := (hT.mod m2).mod m3
    have HE := Lib.hid hE
    clear hE m1 m2 m3 hH hCh hLi hT0 hW1
    have HM := Lib.hid (Mod.refl (fun _ => False) V)
    have d0 := keepR HM.out c0
    have d1 := keepR HM.out c1
    have d2 := keepR HM.out c2
    have d3 := keepR HM.out c3
    go_wp2_with fail
    refine (hPu _ (hT.mod HM.out)).mono ?_
    rintro e u1 ⟨rfl, mm⟩
    replace HM := Lib.hid (HM.out.trans mm)
    clear mm d0 d1 d2 d3
    have d0 := keepR HM.out c0
    have d1 := keepR HM.out c1
    have d2 := keepR HM.out c2
    have d3 := keepR HM.out c3
    go_upto_if 54 with (fail)
    go_cut [4] from 5 to 222 (fun e wc => (∃ i : Int, e = .int .i64 i) ∧ Hid (Mod (fun _ => False) V wc))
    case first =>
      by_cases h0 : a3 = 0
      · obtain ⟨k1, k2, k3, k4, k5, k6, k7⟩ := kp.out h0
        subst h0
        have z1 := dir_small k1
        have hD2 := fun U => drop_any a1 n U z1 (by omega)
        generalize dropS a1 n = B2 at *
        obtain ⟨q1, q2, q3⟩ := B2
        simp only [Prod.mk.injEq] at k5 k6 k7
        obtain ⟨rfl, rfl⟩ := k5
        have z2 : q1.size ≤ 1099511627776 := by omega
        have hFi := fun U => find_any a1 n U z1 (by omega)
        rw [k2] at hFi
        have hCo : ∀ U, Tabs U → Calls Tryd.prog 16 #[.string a1] U fun e w' => e = .returned (.int .i64 ((l.length : Int) + 1)) ∧ Mod (fun _ => False) U w' := fun U hT => by
          have := count_any a1 U z1 hT
          rw [k3] at this
          exact this
        have hKe : ∀ U, EntsAt U (fun _ => True) (.slice va l.length vc) l → Tabs U → _ := fun U hE hT => kept_any a1 ⟨#[]⟩ _ l U hE k4 z1 (by have := HL.out.1; omega) HL.out.2 hT
        have hC2 := fun U => count_any q1 U z2
        rw [k6] at hC2
        have e7 : ((q1.size : Int) != (a1.size : Int)) = false := by rw [k7]; simp
        unfold putV at hD2
        simp only at hD2 hFi
        clear k1 k2 k3 k4 k6 k7 z1 z2 kp kr kd hPu hRe hDr hFo hW HL
        go_wp2_with fail
        refine (hFi _ (hT.mod HM.out)).mono ?_
        rintro e u2 ⟨rfl, mm⟩
        replace HM := Lib.hid (HM.out.trans mm)
        clear mm d0 d1 d2 d3
        have d0 := keepR HM.out c0
        have d1 := keepR HM.out c1
        have d2 := keepR HM.out c2
        have d3 := keepR HM.out c3
        go_wp2_with fail
        refine (hCo _ (hT.mod HM.out)).mono ?_
        rintro e u3 ⟨rfl, mm⟩
        replace HM := Lib.hid (HM.out.trans mm)
        clear mm d0 d1 d2 d3
        have d0 := keepR HM.out c0
        have d1 := keepR HM.out c1
        have d2 := keepR HM.out c2
        have d3 := keepR HM.out c3
        go_wp2_with fail
        refine (hKe _ (HE.out.mod HM.out (fun _ _ _ x => x)) (hT.mod HM.out)).mono ?_
        rintro e u4 ⟨rfl, mm⟩
        replace HM := Lib.hid (HM.out.trans mm)
        clear mm d0 d1 d2 d3
        have d0 := keepR HM.out c0
        have d1 := keepR HM.out c1
        have d2 := keepR HM.out c2
        have d3 := keepR HM.out c3
        go_wp2_with fail
        refine (hD2 _ (hT.mod HM.out)).mono ?_
        rintro e u5 ⟨rfl, mm⟩
        replace HM := Lib.hid (HM.out.trans mm)
        clear mm d0 d1 d2 d3
        have d0 := keepR HM.out c0
        have d1 := keepR HM.out c1
        have d2 := keepR HM.out c2
        have d3 := keepR HM.out c3
        go_wp2_with fail
        refine (hC2 _ (hT.mod HM.out)).mono ?_
        rintro e u6 ⟨rfl, mm⟩
        replace HM := Lib.hid (HM.out.trans mm)
        clear mm d0 d1 d2 d3
        have d0 := keepR HM.out c0
        have d1 := keepR HM.out c1
        have d2 := keepR HM.out c2
        have d3 := keepR HM.out c3
        go_wp2
        go_meet
        case rel => exact ⟨⟨_, rfl⟩, HM⟩
      · have t1 : (a3 == 0) = false := by simp [h0]
        clear kp kr kd hPu hRe hDr hFo hW HL
        go_wp2
        go_meet
        case rel => exact ⟨⟨_, rfl⟩, HM⟩
    case rest =>
      obtain ⟨⟨i, rfl⟩, HM⟩ := hcut
      clear kp hPu
      have d0 := keepR HM.out c0
      have d1 := keepR HM.out c1
      have d2 := keepR HM.out c2
      have d3 := keepR HM.out c3
      go_wp2_with fail
      refine (hRe _ (hT.mod HM.out)).mono ?_
      rintro e u1 ⟨rfl, mm⟩
      replace HM := Lib.hid (HM.out.trans mm)
      clear mm d0 d1 d2 d3
      have d0 := keepR HM.out c0
      have d1 := keepR HM.out c1
      have d2 := keepR HM.out c2
      have d3 := keepR HM.out c3
      go_upto_if 126 with (fail)
      go_cut [4] from 5 to 222 (fun e wc => (∃ i : Int, e = .int .i64 i) ∧ Hid (Mod (fun _ => False) V wc))
      case first =>
        by_cases h0 : r3 = 0
        · obtain ⟨k1, k2, k3, k4, k5, k6⟩ := kr.out h0
          subst h0
          have z1 := dir_small k1
          have hFi := fun U => find_any r1 o U z1 (by omega)
          rw [k3] at hFi k2
          simp only at k2 hFi
          subst k2
          have hCo := fun U => count_any r1 U z1
          rw [k4] at hCo
          have hKe : ∀ U, EntsAt U (fun _ => True) (.slice va l.length vc) l → Tabs U → _ := fun U hE hT => kept_any r1 n _ l U hE k6 z1 (by have := HL.out.1; omega) HL.out.2 hT
          have e7 : ((r1.size : Int) != (s.size : Int)) = false := by rw [k5]; simp
          clear k1 k3 k4 k5 k6 z1 kr kd hRe hDr hW HL
          go_wp2_with fail
          refine (hFi _ (hT.mod HM.out)).mono ?_
          rintro e u2 ⟨rfl, mm⟩
          replace HM := Lib.hid (HM.out.trans mm)
          clear mm d0 d1 d2 d3
          have d0 := keepR HM.out c0
          have d1 := keepR HM.out c1
          have d2 := keepR HM.out c2
          have d3 := keepR HM.out c3
          go_wp2_with fail
          refine (hFo _ (hT.mod HM.out)).mono ?_
          rintro e u3 ⟨rfl, mm⟩
          replace HM := Lib.hid (HM.out.trans mm)
          clear mm d0 d1 d2 d3
          have d0 := keepR HM.out c0
          have d1 := keepR HM.out c1
          have d2 := keepR HM.out c2
          have d3 := keepR HM.out c3
          go_wp2_with fail
          refine (hCo _ (hT.mod HM.out)).mono ?_
          rintro e u4 ⟨rfl, mm⟩
          replace HM := Lib.hid (HM.out.trans mm)
          clear mm d0 d1 d2 d3
          have d0 := keepR HM.out c0
          have d1 := keepR HM.out c1
          have d2 := keepR HM.out c2
          have d3 := keepR HM.out c3
          go_wp2_with fail
          refine (hKe _ (HE.out.mod HM.out (fun _ _ _ x => x)) (hT.mod HM.out)).mono ?_
          rintro e u5 ⟨rfl, mm⟩
          replace HM := Lib.hid (HM.out.trans mm)
          clear mm d0 d1 d2 d3
          have d0 := keepR HM.out c0
          have d1 := keepR HM.out c1
          have d2 := keepR HM.out c2
          have d3 := keepR HM.out c3
          go_wp2
          go_meet
          case rel => exact ⟨⟨_, rfl⟩, HM⟩
        · have t1 : (r3 == 0) = false := by simp [h0]
          clear kr kd hRe hDr hFo hW HL
          go_wp2
          go_meet
          case rel => exact ⟨⟨_, rfl⟩, HM⟩
      case rest =>
        obtain ⟨⟨i2, rfl⟩, HM⟩ := hcut
        clear kr hRe hFo
        have d0 := keepR HM.out c0
        have d1 := keepR HM.out c1
        have d2 := keepR HM.out c2
        have d3 := keepR HM.out c3
        go_wp2_with fail
        refine (hDr _ (hT.mod HM.out)).mono ?_
        rintro e u1 ⟨rfl, mm⟩
        replace HM := Lib.hid (HM.out.trans mm)
        clear mm d0 d1 d2 d3
        have d0 := keepR HM.out c0
        have d1 := keepR HM.out c1
        have d2 := keepR HM.out c2
        have d3 := keepR HM.out c3
        by_cases h0 : b3 = 0
        · obtain ⟨k1, k2, k3, k4, k5⟩ := kd.out h0
          subst h0
          have z1 := dir_small k1
          have hFi := fun U => find_any b1 n U z1 (by omega)
          rw [k2] at hFi
          simp only at hFi
          have hCo : ∀ U, Tabs U → Calls Tryd.prog 16 #[.string b1] U fun e w' => e = .returned (.int .i64 ((l.length : Int) - 1)) ∧ Mod (fun _ => False) U w' := fun U hT => by
            have := count_any b1 U z1 hT
            rw [show ((countS b1 : Nat) : Int) = (l.length : Int) - 1 by omega] at this
            exact this
          have hKe : ∀ U, EntsAt U (fun _ => True) (.slice va l.length vc) l → Tabs U → _ := fun U hE hT => kept_any b1 n _ l U hE k5 z1 (by have := HL.out.1; omega) HL.out.2 hT
          have e7 : ((b1.size : Int) != (s.size : Int)) = false := by rw [k4]; simp
          clear k1 k2 k3 k4 k5 z1 kd hDr HL
          go_wp2_with fail
          refine (hFi _ (hT.mod HM.out)).mono ?_
          rintro e u2 ⟨rfl, mm⟩
          replace HM := Lib.hid (HM.out.trans mm)
          clear mm d0 d1 d2 d3
          have d0 := keepR HM.out c0
          have d1 := keepR HM.out c1
          have d2 := keepR HM.out c2
          have d3 := keepR HM.out c3
          go_wp2_with fail
          refine (hCo _ (hT.mod HM.out)).mono ?_
          rintro e u3 ⟨rfl, mm⟩
          replace HM := Lib.hid (HM.out.trans mm)
          clear mm d0 d1 d2 d3
          have d0 := keepR HM.out c0
          have d1 := keepR HM.out c1
          have d2 := keepR HM.out c2
          have d3 := keepR HM.out c3
          go_wp2_with fail
          refine (hKe _ (HE.out.mod HM.out (fun _ _ _ x => x)) (hT.mod HM.out)).mono ?_
          rintro e u4 ⟨rfl, mm⟩
          replace HM := Lib.hid (HM.out.trans mm)
          clear mm d0 d1 d2 d3
          have d0 := keepR HM.out c0
          have d1 := keepR HM.out c1
          have d2 := keepR HM.out c2
          have d3 := keepR HM.out c3
          go_wp2_with fail
          refine (hW _ (hT.mod HM.out)).mono ?_
          rintro e u5 ⟨rfl, mm⟩
          replace HM := Lib.hid (HM.out.trans mm)
          clear mm d0 d1 d2 d3
          have d0 := keepR HM.out c0
          have d1 := keepR HM.out c1
          have d2 := keepR HM.out c2
          have d3 := keepR HM.out c3
          go_wp2
          go_ret
          exact ⟨rfl, HW.out.trans HM.out⟩
        · have t1 : (b3 == 0) = false := by simp [h0]
          clear kd hDr HL
          go_wp2_with fail
          refine (hW _ (hT.mod HM.out)).mono ?_
          rintro e u2 ⟨rfl, mm⟩
          replace HM := Lib.hid (HM.out.trans mm)
          clear mm d0 d1 d2 d3
          have d0 := keepR HM.out c0
          have d1 := keepR HM.out c1
          have d2 := keepR HM.out c2
          have d3 := keepR HM.out c3
          go_wp2
          go_ret
          exact ⟨rfl, HW.out.trans HM.out⟩

set_option maxRecDepth 100000 in
theorem contract (H : Type) (enc : TypeId × Value → H) (W : World) (base : Nat) (args : Array Value) (ds gs : List (DataW H)) (before : List MemPlace)
    (hval : ∀ (j : Nat) t v, Tryd.f7.params[j]? = some t → args[j]? = some v → Value.okWide Tryd.prog W .any base t v)
    (hW : DataW.Whole enc Tryd.prog Tryd.f7.params.toList Rows.dirKeepsSpec.vars false W args.toList ds gs before)
    (hL : laidMetH Tryd.prog Rows.dirKeepsRow.laid W) :
    Calls Tryd.prog 7 args W fun e W' => ∃ v, e = .returned v ∧ Rows.dirKeepsSpec.post enc Tryd.prog Tryd.f7 false true false false W args v W' := by
  have hT := tabs_of_laid W hL
  have hW' := hW
  obtain ⟨p, q, hA0, hV, rfl, hfz, hnd⟩ := hW
  have hA : DataW.TrodAll enc Tryd.prog W 0 (fun _ => true) true Tryd.f7.params.toList args.toList ds p := hA0
  rw [Tryd.params7] at hA hval
  obtain ⟨v0, vs0, d0, ds0, p0, q0, hargs, rfl, rfl, h0, r0⟩ := trodAll_cons hA
  obtain ⟨rfl, rfl, rfl⟩ := trodAll_nil r0
  obtain rfl : args = #[v0] := by cases args; simp_all
  obtain ⟨rfl, rfl⟩ := trodVars_none hV
  obtain ⟨s, n, o, x, rfl, hs, hn, ho, hx⟩ := arg_change (hval 0 24 v0 rfl rfl) h0
  clear hA0
  simp only [List.append_nil] at hW'
  refine (walk s n o x W hs hn ho hx hT).mono fun e W' ⟨he, hg⟩ => ?_
  subst he
  exact ⟨_, rfl, law_post hW' hg (by kernel_rfl) rfl rfl rfl rfl rfl⟩
set_option maxRecDepth 100000 in
theorem lifted (os : Os) (started : os.Started) (H : Type) (enc : TypeId × Value → H) :
    ReturnsInHanded {} Tryd.checked os 7 .any (fun w args => (Rows.dirKeepsSpec.pre enc Tryd.prog Tryd.f7 Rows.dirKeepsRow.domain false w args ∧ laidMetH Tryd.prog Rows.dirKeepsRow.laid w) ∧ sizedMet enc Tryd.prog Tryd.f7 (OpenSpec.ofChange Rows.dirKeepsSpec) false w args)
      (Rows.dirKeepsSpec.post enc Tryd.prog Tryd.f7 false true false false) := by
  refine returnsInHanded_of_change_and (C := Tryd.checked) (X := fun w _ => laidMetH Tryd.prog Rows.dirKeepsRow.laid w) (fun _ _ _ hh h => h.of_heap hh) own_knob started (by kernel_rfl) Tryd.func7
    (ChangeSpec.witness_shaped (enc := enc) (C := Tryd.checked) (os := os) (X := fun w _ => laidMetH Tryd.prog Rows.dirKeepsRow.laid w) false (World.laidAll Tryd.prog os Rows.dirKeepsRow.laid) #[.agg #[.string .empty, .string .empty, .string .empty, .int .u64 0]] 8 (World.laidAll_os _ _ _)
      (World.shaped_of_ZipB (by kernel_rfl) (by kernel_rfl)) (by kernel_rfl) (by kernel_rfl) (by kernel_rfl)
      (by rw [MakeChecks.laidMetH_plain _ _ _ (by kernel_rfl)]; exact laidMet_laidAll _ (by kernel_rfl) (by kernel_rfl))) ?_
  intro W base args ds gs before hval hW _ _ hL _
  exact contract H enc W base args ds gs before hval hW hL

theorem holds : Rows.DirKeepsSaid :=
  OpenClaim.holds_of_wide 7 Tryd.f7 rfl rfl rfl rfl rfl rfl rfl ⟨rfl, rfl, rfl, rfl, rfl⟩ rfl rfl rfl rfl rfl (by kernel_rfl) Tryd.func7 (by kernel_rfl)
    (of_decide_eq_true (by kernel_rfl)) (by unfold Func.isWrapper; first | (rw [if_pos (by decide +kernel)]; kernel_rfl) | (rw [if_neg (by decide +kernel)]; exact ⟨rfl, rfl⟩))
    (fun os started H enc _ => lifted os started H enc)

theorem proved : Rows.DirKeepsCardSaid :=
  Claim7.holds_tied_plain_at .later [] [.data, .pinned] true (true, "67b92133683c6ece50fdaa6ce9b498d57ddb0f28c7f6dfe5a40ee77b233c1a73") false holds (fun _ h => by cases h) (by kernel_rfl) (fun _ h => by cases h) dirKeeps_row_tie rfl ⟨rfl, rfl⟩ (by kernel_rfl) rfl
    (fun f fn hf hfn => by
      obtain rfl : f = 7 := Option.some.inj ((show Tryd.prog.funcNamed "coffer/cofferlaw17.DirKeeps" = some 7 by kernel_rfl).symm.trans hf) |>.symm
      obtain rfl : fn = Tryd.f7 := (Option.some.inj (Tryd.func7.symm.trans hfn)).symm
      exact ⟨by kernel_rfl, fun j t ht => by
        rw [Tryd.params7] at ht
        have hm : t ∈ [24] := by simpa using Array.mem_of_getElem? ht
        have hall : ([24].all fun u => !Tryd.prog.wantsStandIn u) = true := by kernel_rfl
        exact (show Tryd.prog.wantsStandIn t = false by simpa using List.all_eq_true.1 hall t hm)⟩)
    (by kernel_rfl)
end Go.Proofs.YtfkmfllhlhefdaaDoor.dirKeeps
