/- DirShape. -/
import Derived.Test.YtfkmfllhlhefdaaDoorLawDir
import Derived.Test.YtfkmfllhlhefdaaDoorLawChange
import Derived.Test.YtfkmfllhlhefdaaDoorDirWorks
import Derived.Test.YtfkmfllhlhefdaaDoorDirRef5
import Derived.Test.YtfkmfllhlhefdaaDoorPDirShape
import Derived.Deep.DeepCutAuto
namespace Go.Proofs.YtfkmfllhlhefdaaDoor
open Go.RowKit

theorem put_empty (i : Nat) : putS ⟨#[]⟩ (nameN i) (1000 + i) = (slotB (1000 + i) (nameN i), 0, 0) := by
  have e := put_intro (n := nameN i) (p := 1000 + i) isDir_empty (nameN_ok i) (by omega) (fun e he => (by rw [ents_empty] at he; cases he)) (by rw [free_empty]; decide)
  rw [free_empty] at e
  refine e.trans ?_
  unfold withS
  rw [if_pos (by decide)]
  rw [show ByteArray.empty ++ slotB (1000 + i) (nameN i) = slotB (1000 + i) (nameN i) from ByteArray.empty_append]
theorem conv_name {P : Program} (src dst e : TypeId) (i : Nat)
    (hs : P.underlying src = some (.slice e)) (he : P.underlying e = some (.int .u8)) (hd : P.underlying dst = some .string) (w : World) :
    (convert src dst (.slice (some ⟨w.heap.size, 0, none⟩) 2 2)).run P (w.alloc (.cells #[.int .u8 (97 + (i : Int) / 26 % 26), .int .u8 (97 + (i : Int) % 26)] e)) =
      .ok (.string (bs [UInt8.ofNat (97 + i / 26 % 26), UInt8.ofNat (97 + i % 26)])) (w.alloc (.cells #[.int .u8 (97 + (i : Int) / 26 % 26), .int .u8 (97 + (i : Int) % 26)] e)) := by
  have h := conv_new (P := P) src dst e 2 [UInt8.ofNat (97 + i / 26 % 26), UInt8.ofNat (97 + i % 26)] rfl hs he hd w
  simp only [bc, List.map_cons, List.map_nil] at h
  rw [u8_natN (by omega), u8_natN (by omega), show ((97 + i / 26 % 26 : Nat) : Int) = 97 + (i : Int) / 26 % 26 by omega, show ((97 + i % 26 : Nat) : Int) = 97 + (i : Int) % 26 by omega] at h
  exact h
theorem name_cat (i : Nat) : (⟨#[110]⟩ : ByteArray) ++ bs [UInt8.ofNat (97 + i / 26 % 26), UInt8.ofNat (97 + i % 26)] = nameN i := (bs_cat [110] _).symm
set_option maxRecDepth 100000 in
set_option maxHeartbeats 2000000 in
theorem sput_any (t : ByteArray) (k i : Nat) (w : World) (ht : t.size ≤ 1099511627776) (hk : k * 64 + 64 ≤ t.size) (hi : i < 112) (hT : Tabs w) :
    Calls Tryd.prog 12 #[.string t, .int .i64 k, .int .i64 i] w fun e w' => e = .returned (.tuple #[.string (withS t k (slotB (1000 + i) (nameN i))), .int .i64 0]) ∧ Mod (fun _ => False) w w' := by
  have hns := (nameOk_size (nameN_ok i)).2
  have hPu : ∀ U, Tabs U → Calls Tryd.prog 14 #[.string ⟨#[]⟩, .string (nameN i), .int .u64 (1000 + (i : Int))] U fun e w' => e = .returned (.tuple #[.string (slotB (1000 + i) (nameN i)), .int .i64 0, .int .i64 0]) ∧ Mod (fun _ => False) U w' := fun U hT => by
    have := rput_any ⟨#[]⟩ (nameN i) (1000 + i) U (by decide) (by omega) (by omega) hT
    rw [put_empty] at this
    exact this
  have hz := conv_name (P := Tryd.prog) 31 9 5 i Tryd.underlying31 Tryd.underlying5 Tryd.underlying9
  have hcat := name_cat i
  have hsl := slotB_size (p := 1000 + i) (n := nameN i) hns
  have hap : ∀ x y : ByteArray, (x ++ y).size = x.size + y.size := fun x y => ByteArray.size_append
  generalize slotB (1000 + i) (nameN i) = x at *
  have hb2 : (bs [UInt8.ofNat (97 + i / 26 % 26), UInt8.ofNat (97 + i % 26)]).size = 2 := rfl
  generalize bs [UInt8.ofNat (97 + i / 26 % 26), UInt8.ofNat (97 + i % 26)] = b2 at *
  obtain ⟨m, hm⟩ : ∃ m, k * 64 = m := ⟨_, rfl⟩
  rw [hm] at hk
  have hw1 : IntKind.i64.wrap ((k : Int) * 64) = m := by rw [IntKind.wrap_i64]; omega
  have hw2 : IntKind.i64.wrap ((k : Int) + 1) = ((k + 1 : Nat) : Int) := by rw [IntKind.wrap_i64]; omega
  have hw3 : IntKind.i64.wrap (((k + 1 : Nat) : Int) * 64) = ((m + 64 : Nat) : Int) := by rw [IntKind.wrap_i64]; omega
  have HV : Hid (withS t k x = t.extract 0 m ++ x ++ t.extract ((k + 1) * 64) t.size) := by show _ = _; unfold withS; rw [if_neg (by omega), Nat.add_mul, Nat.one_mul, hm]
  have hz1 : (t.extract 0 m).size = m := by rw [ByteArray.size_extract]; omega
  have hz2 : (t.extract (m + 64) t.size).size = t.size - (m + 64) := by rw [ByteArray.size_extract]; omega
  have i1 : (m : Int) ≤ (t.size : Int) := by omega
  have i2 : ((m + 64 : Nat) : Int) ≤ (t.size : Int) := by omega
  have i3 : m ≤ t.size := by omega
  clear hns
  go_enter Tryd.func12, Tryd.ntmps12
  go_wp2_with fail
  refine (hPu _ (hT.mod ((Mod.refl (fun _ => False) w).alloc _))).mono ?_
  rintro e w2 ⟨rfl, m2⟩
  have HM := Lib.hid (((Mod.refl (fun _ => False) w).alloc _).trans m2)
  clear m2 hPu hz
  go_wp2
  go_quiet (fail)
  go_wp2
  go_ret2
  exact ⟨by rw [HV.out]; rfl, HM.out.drewN _⟩
theorem shape_next {s : ByteArray} {l : List Ent} {j : Nat} (h : j < l.length) : shapeS s.size l (j + 1) = withS (shapeS s.size l j) l[j].slot (slotB (1000 + j) (nameN j)) := by
  rw [shapeS, List.getD_eq_getElem?_getD, List.getElem?_map, List.getElem?_eq_getElem h]
  rfl
end Go.Proofs.YtfkmfllhlhefdaaDoor
namespace Go.Proofs.YtfkmfllhlhefdaaDoor.dirShape
open Go.ChangeShapes Go.WideShapes Go.ChangeAt Go.RowKit

set_option maxRecDepth 100000 in
set_option maxHeartbeats 4000000 in
theorem walk (s n o : ByteArray) (p : Nat) (w : World) (hs : s.size ≤ 9223372036854775807) (hn : n.size ≤ 9223372036854775807) (ho : o.size ≤ 9223372036854775807) (hp : p < 18446744073709551616) (hT0 : Tabs w) :
    Calls Tryd.prog 3 #[.agg #[.string s, .string n, .string o, .int .u64 p]] w fun e w' => e = .returned (.bool true) ∧ Mod (fun _ => False) w w' := by
  have hH := fun U => heavy_any s n o U hs hn ho
  have hW := works_any
  obtain ⟨W1, hW1⟩ : ∃ W1, w.alloc (.cells #[.string s, .string n, .string o, .int .u64 p] 24) = W1 := ⟨_, rfl⟩
  have hB : W1.heap[w.heap.size]? = some (.cells #[.string s, .string n, .string o, .int .u64 p] 24 (0, 0)) := by subst hW1; exact new_at _ _
  have HM : Hid (Mod (fun _ => False) w W1) := by subst hW1; exact (Mod.refl _ _).alloc _
  have hT := hT0.mod HM.out
  have c0 : (W1).cell? ⟨w.heap.size, 0, none⟩ = some (.string s) := (cell_of hB 0).trans rfl
  have c1 : (W1).cell? ⟨w.heap.size, 1, none⟩ = some (.string n) := (cell_of hB 1).trans rfl
  have c2 : (W1).cell? ⟨w.heap.size, 2, none⟩ = some (.string o) := (cell_of hB 2).trans rfl
  have c3 : (W1).cell? ⟨w.heap.size, 3, none⟩ = some (.int .u64 p) := (cell_of hB 3).trans rfl
  clear hB hT0
  by_cases hh : heavyS s n o = true
  · rw [hh] at hH
    go_enter Tryd.func3, Tryd.ntmps3
    go_wp2_with fail
    refine (hH _).mono ?_
    rintro e w1 ⟨rfl, rfl⟩
    go_wp2_with fail
    refine (hW _ hT).mono ?_
    rintro e we ⟨rfl, mm⟩
    replace c0 := keepR mm c0
    replace c1 := keepR mm c1
    replace c2 := keepR mm c2
    replace c3 := keepR mm c3
    replace hT := hT.mod mm
    replace HM := Lib.hid (HM.out.trans mm)
    clear mm
    go_wp2
    go_ret
    exact ⟨rfl, HM.out⟩
  have hh : heavyS s n o = false := by simpa using hh
  rw [hh] at hH
  have hsz : s.size ≤ 4480 ∧ n.size ≤ 4096 ∧ o.size ≤ 4096 := by
    unfold heavyS at hh
    simp only [Bool.or_eq_false_iff, decide_eq_false_iff_not] at hh
    omega
  obtain ⟨hs1, hn1, ho1⟩ := hsz
  clear hh hs hn ho
  have hN1 := fun U => rname_any n U (by omega)
  have hN2 := fun U => rname_any o U (by omega)
  cases hk1 : nameOk n with
  | false =>
    rw [hk1] at hN1
    clear hN2
    go_enter Tryd.func3, Tryd.ntmps3
    go_wp2_with fail
    refine (hH _).mono ?_
    rintro e w1 ⟨rfl, rfl⟩
    go_wp2_with fail
    refine (hN1 _ hT).mono ?_
    rintro e w2 ⟨rfl, mm⟩
    replace c0 := keepR mm c0
    replace c1 := keepR mm c1
    replace c2 := keepR mm c2
    replace c3 := keepR mm c3
    replace hT := hT.mod mm
    replace HM := Lib.hid (HM.out.trans mm)
    clear mm
    go_wp2_with fail
    refine (hW _ hT).mono ?_
    rintro e we ⟨rfl, mm⟩
    replace c0 := keepR mm c0
    replace c1 := keepR mm c1
    replace c2 := keepR mm c2
    replace c3 := keepR mm c3
    replace hT := hT.mod mm
    replace HM := Lib.hid (HM.out.trans mm)
    clear mm
    go_wp2
    go_ret
    exact ⟨rfl, HM.out⟩
  | true =>
  rw [hk1] at hN1
  cases hk2 : nameOk o with
  | false =>
    rw [hk2] at hN2
    go_enter Tryd.func3, Tryd.ntmps3
    go_wp2_with fail
    refine (hH _).mono ?_
    rintro e w1 ⟨rfl, rfl⟩
    go_wp2_with fail
    refine (hN1 _ hT).mono ?_
    rintro e w2 ⟨rfl, mm⟩
    replace c0 := keepR mm c0
    replace c1 := keepR mm c1
    replace c2 := keepR mm c2
    replace c3 := keepR mm c3
    replace hT := hT.mod mm
    replace HM := Lib.hid (HM.out.trans mm)
    clear mm
    go_wp2_with fail
    refine (hN2 _ hT).mono ?_
    rintro e w3 ⟨rfl, mm⟩
    replace c0 := keepR mm c0
    replace c1 := keepR mm c1
    replace c2 := keepR mm c2
    replace c3 := keepR mm c3
    replace hT := hT.mod mm
    replace HM := Lib.hid (HM.out.trans mm)
    clear mm
    go_wp2_with fail
    refine (hW _ hT).mono ?_
    rintro e we ⟨rfl, mm⟩
    replace c0 := keepR mm c0
    replace c1 := keepR mm c1
    replace c2 := keepR mm c2
    replace c3 := keepR mm c3
    replace hT := hT.mod mm
    replace HM := Lib.hid (HM.out.trans mm)
    clear mm
    go_wp2
    go_ret
    exact ⟨rfl, HM.out⟩
  | true =>
  rw [hk2] at hN2
  have hRl := fun U => rlist_any s U (by omega)
  cases hl : listS s with
  | none =>
    rw [hl] at hRl
    simp only [Option.isSome_none] at hRl
    go_enter Tryd.func3, Tryd.ntmps3
    go_wp2_with fail
    refine (hH _).mono ?_
    rintro e w1 ⟨rfl, rfl⟩
    go_wp2_with fail
    refine (hN1 _ hT).mono ?_
    rintro e w2 ⟨rfl, mm⟩
    replace c0 := keepR mm c0
    replace c1 := keepR mm c1
    replace c2 := keepR mm c2
    replace c3 := keepR mm c3
    replace hT := hT.mod mm
    replace HM := Lib.hid (HM.out.trans mm)
    clear mm
    go_wp2_with fail
    refine (hN2 _ hT).mono ?_
    rintro e w3 ⟨rfl, mm⟩
    replace c0 := keepR mm c0
    replace c1 := keepR mm c1
    replace c2 := keepR mm c2
    replace c3 := keepR mm c3
    replace hT := hT.mod mm
    replace HM := Lib.hid (HM.out.trans mm)
    clear mm
    go_wp2_with fail
    refine (hRl _ hT).mono ?_
    rintro e w4 ⟨v, rfl, hE, mm⟩
    replace c0 := keepR mm c0
    replace c1 := keepR mm c1
    replace c2 := keepR mm c2
    replace c3 := keepR mm c3
    replace hT := hT.mod mm
    replace HM := Lib.hid (HM.out.trans mm)
    clear mm
    go_wp2_with fail
    refine (hW _ hT).mono ?_
    rintro e we ⟨rfl, mm⟩
    replace c0 := keepR mm c0
    replace c1 := keepR mm c1
    replace c2 := keepR mm c2
    replace c3 := keepR mm c3
    replace hT := hT.mod mm
    replace HM := Lib.hid (HM.out.trans mm)
    clear mm
    go_wp2
    go_ret
    exact ⟨rfl, HM.out⟩
  | some l =>
  rw [hl] at hRl
  simp only [Option.isSome_some, Option.getD_some] at hRl
  obtain ⟨hd, hll⟩ := listS_iff.1 hl
  have hlen : l.length ≤ s.size / 64 := by rw [hll]; exact ents_len hd
  have hmem : Hid (∀ e ∈ l, e.slot < s.size / 64) := by
    rw [hll]
    intro e he
    exact (hd.mem he).1
  have hsh : Hid (∀ j, j ≤ l.length → ShapeOk s j (shapeS s.size l j)) := by rw [hll]; exact shape_ok hd
  have hlw : ∀ t, ShapeOk s l.length t → _ := fun t ht => shape_law (s := s) (t := t) (n := n) (o := o) (p := p) (q := 9223372036854775808) hs1 (by rw [← hll]; exact ht)
  replace hlw := Lib.hid hlw
  have hmk := make_row (P := Tryd.prog) 31 5 (.int .u8 0) 1 s.size Tryd.underlying31 info_byte rfl (by omega) (by unfold maxLen; omega)
  rw [bc_zeros] at hmk
  have hz := conv_new (P := Tryd.prog) 31 9 5 s.size (List.replicate s.size 0) (by rw [List.length_replicate]) Tryd.underlying31 Tryd.underlying5 Tryd.underlying9
  have h0 : Hid (bs (List.replicate s.size 0) = shapeS s.size l 0) := rfl
  have hPu := fun U => put_any s n p U (by omega) (by omega) hp
  have HL := Lib.hid hlen
  have hl2 : l.length ≤ 4480 := by omega
  clear hl hll hd hlen
  generalize bs (List.replicate s.size 0) = z0 at *
  generalize (bc (List.replicate s.size 0)).toArray = arr at *
  go_enter Tryd.func3, Tryd.ntmps3
  go_wp2_with fail
  refine (hH _).mono ?_
  rintro e w1 ⟨rfl, rfl⟩
  go_wp2_with fail
  refine (hN1 _ hT).mono ?_
  rintro e w2 ⟨rfl, mm⟩
  replace c0 := keepR mm c0
  replace c1 := keepR mm c1
  replace c2 := keepR mm c2
  replace c3 := keepR mm c3
  replace hT := hT.mod mm
  replace HM := Lib.hid (HM.out.trans mm)
  clear mm
  go_wp2_with fail
  refine (hN2 _ hT).mono ?_
  rintro e w3 ⟨rfl, mm⟩
  replace c0 := keepR mm c0
  replace c1 := keepR mm c1
  replace c2 := keepR mm c2
  replace c3 := keepR mm c3
  replace hT := hT.mod mm
  replace HM := Lib.hid (HM.out.trans mm)
  clear mm
  go_wp2_with fail
  refine (hRl _ hT).mono ?_
  rintro e w4 ⟨v, rfl, hE, mm⟩
  obtain ⟨va, vc, hv, hvc, hvx⟩ := hE.form
  subst hv
  replace c0 := keepR mm c0
  replace c1 := keepR mm c1
  replace c2 := keepR mm c2
  replace c3 := keepR mm c3
  replace hT := hT.mod mm
  replace HM := Lib.hid (HM.out.trans mm)
  clear mm
  clear hN1 hN2 hRl hE hH
  obtain ⟨V, hV⟩ : ∃ V, w4.alloc (.cells arr 5) = V := ⟨_, rfl⟩
  have mm : Mod (fun _ => False) w4 V := by subst hV; exact (Mod.refl _ _).alloc _
  have hmkw := hmk w4
  have hzw := hz w4
  rw [hV] at hmkw hzw
  have hvx2 := fun j u hj => (hvx j u hj)
  clear hmk hz hV
  have hvV : ∀ j E, l[j]? = some E → ∃ g off, va = some ⟨g, off, none⟩ ∧ V.cell? ⟨g, off + j * 3, none⟩ = some (.int .i64 E.slot) := fun j E hj => by
    obtain ⟨g, off, h1, _, _, h4⟩ := hvx j E hj
    exact ⟨g, off, h1, keepR mm (h4 0 (.int .i64 E.slot) rfl)⟩
  clear hvx hvx2
  have e0 := c0
  replace c0 := keepR mm c0
  replace c1 := keepR mm c1
  replace c2 := keepR mm c2
  replace c3 := keepR mm c3
  replace hT := hT.mod mm
  replace HM := Lib.hid (HM.out.trans mm)
  clear mm
  rw [h0.out] at hzw
  have hj0 : ((bs (zeros s.size)).size) = s.size := by rw [bs_size, zeros_length]
  go_wp2
  go_loopw [2, 5, 6] (fun r t i wr => ∃ (j : Nat), j ≤ l.length ∧ r = .bool false ∧ t = .string (shapeS s.size l j) ∧ i = .int .i64 j ∧ Hid (Mod (fun _ => False) V wr)) (fun _ _ i _ => l.length - (intOf i).toNat)
  case atStart => exact ⟨0, by omega, rfl, rfl, rfl, Mod.refl _ _⟩
  case round =>
    obtain ⟨j, hj, rfl, rfl, rfl, HMr⟩ := hrel
    by_cases hlt : j < l.length
    · obtain ⟨g, off, rfl, hg⟩ := hvV j l[j] (List.getElem?_eq_getElem hlt)
      have hg := keepR HMr.out hg
      have hsl := hmem.out l[j] (List.getElem_mem hlt)
      have hok := (hsh.out j hj).size
      have hnx := shape_next (s := s) hlt
      have t1 : decide ((j : Int) < (l.length : Int)) = true := by simp; omega
      have j1 : (0 : Int) ≤ (j : Int) := by omega
      have j2 : (j : Int) < (l.length : Int) := by omega
      have j3 : (l.length : Int) ≤ (vc : Int) := by omega
      have hSp := fun U => sput_any (shapeS s.size l j) l[j].slot j U (by omega) (by omega) (by have := HL.out; omega)
      rw [← hnx] at hSp
      generalize l[j] = E at *
      obtain ⟨t', ht'⟩ : ∃ t', shapeS s.size l (j + 1) = t' := ⟨_, rfl⟩
      rw [ht'] at hSp
      rw [ht'] at hnx
      replace ht' := Lib.hid ht'
      generalize shapeS s.size l j = t at *
      clear hnx hok hsl hmem hsh hlw hPu hvV
      go_wp2_with fail
      refine (hSp _ (hT.mod HMr.out)).mono ?_
      rintro e w5 ⟨rfl, m5⟩
      replace HMr := Lib.hid (HMr.out.trans m5)
      clear m5 hSp
      go_wp2
      go_roundw
      case rel => exact ⟨j + 1, hlt, rfl, by rw [ht'.out], by go_num, HMr⟩
      case measure => simp [intOf]; omega
    · obtain rfl : j = l.length := by omega
      have t1 : decide ((l.length : Int) < (l.length : Int)) = false := by simp
      replace hlw := hlw.out _ (hsh.out _ (Nat.le_refl _))
      have hsz := (hsh.out _ (Nat.le_refl _)).size
      have hPt := fun U => put_any (shapeS s.size l l.length) o 9223372036854775808 U (by omega) (by omega) (by decide)
      generalize shapeS s.size l l.length = t at *
      generalize putS s n p = A at *
      generalize putS t o 9223372036854775808 = B at *
      obtain ⟨a1, a2, a3⟩ := A
      obtain ⟨b1, b2, b3⟩ := B
      unfold putV at hPu hPt
      simp only at hPu hPt hlw
      obtain ⟨q1, q2, q3⟩ := hlw
      have u2 : (a3 == 6) = false := by simp [q2]
      have u3 : (b3 == 6) = false := by simp [q3]
      replace c0 := keepR HMr.out c0
      replace c1 := keepR HMr.out c1
      replace c2 := keepR HMr.out c2
      replace c3 := keepR HMr.out c3
      replace hT := hT.mod HMr.out
      replace HM := Lib.hid (HM.out.trans HMr.out)
      replace q1 := Lib.hid q1
      clear hmem hsh hvV q2 q3 hsz HMr
      by_cases h3 : a3 = 0
      · by_cases h4 : b3 = 0
        · obtain ⟨r1, r2⟩ := q1.out h3 h4
          have r2 := r2 ⟨hp, by decide⟩
          subst h3 h4
          have r3 : ((a2 : Int) != (b2 : Int)) = false := by rw [r1]; simp
          have r4 : ((a1.size : Int) != (b1.size : Int)) = false := by rw [r2]; simp
          clear r1 r2
          go_wp2_with fail
          refine (hPu _ hT).mono ?_
          rintro e w5 ⟨rfl, mm⟩
          replace c0 := keepR mm c0
          replace c1 := keepR mm c1
          replace c2 := keepR mm c2
          replace c3 := keepR mm c3
          replace hT := hT.mod mm
          replace HM := Lib.hid (HM.out.trans mm)
          clear mm
          go_wp2_with fail
          refine (hPt _ hT).mono ?_
          rintro e w6 ⟨rfl, mm⟩
          replace c0 := keepR mm c0
          replace c1 := keepR mm c1
          replace c2 := keepR mm c2
          replace c3 := keepR mm c3
          replace hT := hT.mod mm
          replace HM := Lib.hid (HM.out.trans mm)
          clear mm
          go_wp2_with fail
          refine (hW _ hT).mono ?_
          rintro e we ⟨rfl, mm⟩
          replace c0 := keepR mm c0
          replace c1 := keepR mm c1
          replace c2 := keepR mm c2
          replace c3 := keepR mm c3
          replace hT := hT.mod mm
          replace HM := Lib.hid (HM.out.trans mm)
          clear mm
          go_wp2
          go_ret
          exact ⟨rfl, HM.out⟩
        · subst h3
          have r3 : (b3 == 0) = false := by simp [h4]
          go_wp2_with fail
          refine (hPu _ hT).mono ?_
          rintro e w5 ⟨rfl, mm⟩
          replace c0 := keepR mm c0
          replace c1 := keepR mm c1
          replace c2 := keepR mm c2
          replace c3 := keepR mm c3
          replace hT := hT.mod mm
          replace HM := Lib.hid (HM.out.trans mm)
          clear mm
          go_wp2_with fail
          refine (hPt _ hT).mono ?_
          rintro e w6 ⟨rfl, mm⟩
          replace c0 := keepR mm c0
          replace c1 := keepR mm c1
          replace c2 := keepR mm c2
          replace c3 := keepR mm c3
          replace hT := hT.mod mm
          replace HM := Lib.hid (HM.out.trans mm)
          clear mm
          go_wp2_with fail
          refine (hW _ hT).mono ?_
          rintro e we ⟨rfl, mm⟩
          replace c0 := keepR mm c0
          replace c1 := keepR mm c1
          replace c2 := keepR mm c2
          replace c3 := keepR mm c3
          replace hT := hT.mod mm
          replace HM := Lib.hid (HM.out.trans mm)
          clear mm
          go_wp2
          go_ret
          exact ⟨rfl, HM.out⟩
      · have r3 : (a3 == 0) = false := by simp [h3]
        go_wp2_with fail
        refine (hPu _ hT).mono ?_
        rintro e w5 ⟨rfl, mm⟩
        replace c0 := keepR mm c0
        replace c1 := keepR mm c1
        replace c2 := keepR mm c2
        replace c3 := keepR mm c3
        replace hT := hT.mod mm
        replace HM := Lib.hid (HM.out.trans mm)
        clear mm
        go_wp2_with fail
        refine (hPt _ hT).mono ?_
        rintro e w6 ⟨rfl, mm⟩
        replace c0 := keepR mm c0
        replace c1 := keepR mm c1
        replace c2 := keepR mm c2
        replace c3 := keepR mm c3
        replace hT := hT.mod mm
        replace HM := Lib.hid (HM.out.trans mm)
        clear mm
        go_wp2_with fail
        refine (hW _ hT).mono ?_
        rintro e we ⟨rfl, mm⟩
        replace c0 := keepR mm c0
        replace c1 := keepR mm c1
        replace c2 := keepR mm c2
        replace c3 := keepR mm c3
        replace hT := hT.mod mm
        replace HM := Lib.hid (HM.out.trans mm)
        clear mm
        go_wp2
        go_ret
        exact ⟨rfl, HM.out⟩

set_option maxRecDepth 100000 in
theorem contract (H : Type) (enc : TypeId × Value → H) (W : World) (base : Nat) (args : Array Value) (ds gs : List (DataW H)) (before : List MemPlace)
    (hval : ∀ (j : Nat) t v, Tryd.f3.params[j]? = some t → args[j]? = some v → Value.okWide Tryd.prog W .any base t v)
    (hW : DataW.Whole enc Tryd.prog Tryd.f3.params.toList Rows.dirShapeSpec.vars false W args.toList ds gs before)
    (hL : laidMetH Tryd.prog Rows.dirShapeRow.laid W) :
    Calls Tryd.prog 3 args W fun e W' => ∃ v, e = .returned v ∧ Rows.dirShapeSpec.post enc Tryd.prog Tryd.f3 false true false false W args v W' := by
  have hT := tabs_of_laid W hL
  have hW' := hW
  obtain ⟨p, q, hA0, hV, rfl, hfz, hnd⟩ := hW
  have hA : DataW.TrodAll enc Tryd.prog W 0 (fun _ => true) true Tryd.f3.params.toList args.toList ds p := hA0
  rw [Tryd.params3] at hA hval
  obtain ⟨v0, vs0, d0, ds0, p0, q0, hargs, rfl, rfl, h0, r0⟩ := trodAll_cons hA
  obtain ⟨rfl, rfl, rfl⟩ := trodAll_nil r0
  obtain rfl : args = #[v0] := by cases args; simp_all
  obtain ⟨rfl, rfl⟩ := trodVars_none hV
  obtain ⟨s, n, o, x, rfl, hs, hn, ho, hx⟩ := arg_change (hval 0 24 v0 rfl rfl) h0
  clear hA0
  simp only [List.append_nil] at hW'
  refine (walk s n o x W hs hn ho hx hT).mono fun e W' ⟨he, hg⟩ => ?_
  subst he
  exact ⟨_, rfl, law_post hW' hg (by kernel_rfl) rfl rfl rfl rfl rfl⟩
set_option maxRecDepth 100000 in
theorem lifted (os : Os) (started : os.Started) (H : Type) (enc : TypeId × Value → H) :
    ReturnsInHanded {} Tryd.checked os 3 .any (fun w args => (Rows.dirShapeSpec.pre enc Tryd.prog Tryd.f3 Rows.dirShapeRow.domain false w args ∧ laidMetH Tryd.prog Rows.dirShapeRow.laid w) ∧ sizedMet enc Tryd.prog Tryd.f3 (OpenSpec.ofChange Rows.dirShapeSpec) false w args)
      (Rows.dirShapeSpec.post enc Tryd.prog Tryd.f3 false true false false) := by
  refine returnsInHanded_of_change_and (C := Tryd.checked) (X := fun w _ => laidMetH Tryd.prog Rows.dirShapeRow.laid w) (fun _ _ _ hh h => h.of_heap hh) own_knob started (by kernel_rfl) Tryd.func3
    (ChangeSpec.witness_shaped (enc := enc) (C := Tryd.checked) (os := os) (X := fun w _ => laidMetH Tryd.prog Rows.dirShapeRow.laid w) false (World.laidAll Tryd.prog os Rows.dirShapeRow.laid) #[.agg #[.string .empty, .string .empty, .string .empty, .int .u64 0]] 8 (World.laidAll_os _ _ _)
      (World.shaped_of_ZipB (by kernel_rfl) (by kernel_rfl)) (by kernel_rfl) (by kernel_rfl) (by kernel_rfl)
      (by rw [MakeChecks.laidMetH_plain _ _ _ (by kernel_rfl)]; exact laidMet_laidAll _ (by kernel_rfl) (by kernel_rfl))) ?_
  intro W base args ds gs before hval hW _ _ hL _
  exact contract H enc W base args ds gs before hval hW hL

theorem holds : Rows.DirShapeSaid :=
  OpenClaim.holds_of_wide 3 Tryd.f3 rfl rfl rfl rfl rfl rfl rfl ⟨rfl, rfl, rfl, rfl, rfl⟩ rfl rfl rfl rfl rfl (by kernel_rfl) Tryd.func3 (by kernel_rfl)
    (of_decide_eq_true (by kernel_rfl)) (by unfold Func.isWrapper; first | (rw [if_pos (by decide +kernel)]; kernel_rfl) | (rw [if_neg (by decide +kernel)]; exact ⟨rfl, rfl⟩))
    (fun os started H enc _ => lifted os started H enc)

theorem proved : Rows.DirShapeCardSaid :=
  Claim7.holds_tied_plain_at .later [] [.data, .pinned] true (true, "67b92133683c6ece50fdaa6ce9b498d57ddb0f28c7f6dfe5a40ee77b233c1a73") false holds (fun _ h => by cases h) (by kernel_rfl) (fun _ h => by cases h) dirShape_row_tie rfl ⟨rfl, rfl⟩ (by kernel_rfl) rfl
    (fun f fn hf hfn => by
      obtain rfl : f = 3 := Option.some.inj ((show Tryd.prog.funcNamed "coffer/cofferlaw17.DirShape" = some 3 by kernel_rfl).symm.trans hf) |>.symm
      obtain rfl : fn = Tryd.f3 := (Option.some.inj (Tryd.func3.symm.trans hfn)).symm
      exact ⟨by kernel_rfl, fun j t ht => by
        rw [Tryd.params3] at ht
        have hm : t ∈ [24] := by simpa using Array.mem_of_getElem? ht
        have hall : ([24].all fun u => !Tryd.prog.wantsStandIn u) = true := by kernel_rfl
        exact (show Tryd.prog.wantsStandIn t = false by simpa using List.all_eq_true.1 hall t hm)⟩)
    (by kernel_rfl)
end Go.Proofs.YtfkmfllhlhefdaaDoor.dirShape
