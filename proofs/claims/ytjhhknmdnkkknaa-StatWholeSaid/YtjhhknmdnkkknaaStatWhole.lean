/- The statement StatWhole. -/
import Derived.Test.YtjhhknmdnkkknaaLawStat
import Derived.Test.YtjhhknmdnkkknaaWorks
import Derived.Test.YtjhhknmdnkkknaaStatRWin
import Derived.Test.YtjhhknmdnkkknaaStatAll
import Derived.Test.YtjhhknmdnkkknaaPStatWhole
namespace Go.Proofs.Ytjhhknmdnkkknaa.statWhole
open Go.ChangeShapes Go.WideShapes Go.ChangeAt Go.RowKit
open Go.Proofs.Ytjhhknmdnkkknaa

theorem arg_u16s {H : Type} {enc : TypeId × Value → H} {W : World} {base : Nat} {v : Value} {d : DataW H} {ps : List MemPlace} (hval : Value.okWide Try.prog W .any base 48 v)
    (h : DataW.Trod enc Try.prog W 0 (fun _ => true) true 48 v d ps) : ∃ (a : Option Addr) (len cap : Nat) (C : Nat → Nat), v = .slice a len cap ∧ len ≤ maxLen ∧
      ∀ i, i < len → C i ≤ 65535 ∧ ∃ g off, a = some ⟨g, off, none⟩ ∧ g < W.heap.size ∧ W.cell? ⟨g, off + i, none⟩ = some (.int .u16 (C i)) := by
  obtain ⟨a, len, cap, row, rfl, hl, hr⟩ := arg_slice Try.underlying48 (by kernel_rfl : Try.prog.cellsOf 22 = 1) (by decide) hval h
  refine ⟨a, len, cap, fun i => match row i with | [.int .u16 c] => c.toNat | _ => 0, rfl, hl, fun i hi => ?_⟩
  obtain ⟨h1, ⟨g, off, ha, hg, hc⟩, n, y, hy⟩ := hr i hi
  have h2 := hc 0 (by decide)
  obtain ⟨c, e, _, w0⟩ := DataW.trod_int Try.underlying22 hy
  obtain ⟨x, rfl, hx⟩ := wf_lt (m := 65535) w0 rfl rfl
  rw [Nat.mul_one, Nat.add_zero] at h2
  refine ⟨?_, g, off, ha, hg, ?_⟩
  · simp only [e]; show (x : Int).toNat ≤ 65535; omega
  · rw [h2]
    simp only [e]
    rfl

set_option maxRecDepth 100000 in
set_option maxHeartbeats 4000000 in
theorem walk (a : Option Addr) (cap : Nat) (L : List St) (a2 : Option Addr) (n2 cap2 : Nat) (C : Nat → Nat) (w : World) (h : StsAt w (fun _ => True) (.slice a L.length cap) L)
    (hlen : L.length ≤ 140737488355328) (hOk : ∀ s ∈ L, s.Ok) (hsz : ∀ s ∈ L, s.n.size ≤ 140737488355328 ∧ s.u.size ≤ 140737488355328 ∧ s.g.size ≤ 140737488355328 ∧ s.m.size ≤ 140737488355328)
    (h2 : ∀ i, i < n2 → C i ≤ 65535 ∧ ∃ g off, a2 = some ⟨g, off, none⟩ ∧ g < w.heap.size ∧ w.cell? ⟨g, off + i, none⟩ = some (.int .u16 (C i))) :
    Calls Try.prog 7 #[.slice a L.length cap, .slice a2 n2 cap2] w fun e w' => e = .returned (.bool true) ∧ Mod (fun _ => False) w w' := by
  have hlong := long_any _ L w h hlen hsz
  have hls : Hid (longS L = decide (60 < L.length ∨ 262144 < sumS L)) := rfl
  obtain ⟨_, _, he, hcap, hx⟩ := h.form
  injection he with e1 _ e3
  subst e1 e3
  generalize hlb : longS L = lb at *
  go_enter Try.func7, Try.ntmps7
  go_wp2_with fail
  refine hlong.mono ?_
  rintro e w3 ⟨rfl, m3⟩
  have HM3 := Lib.hid m3
  clear m3 hlong
  cases lb
  · have hsm := of_decide_eq_false hls.out.symm
    have h60 : L.length ≤ 60 := by omega
    have hL : ∀ s ∈ L, s.Ok ∧ s.n.size ≤ 262144 ∧ s.u.size ≤ 262144 ∧ s.g.size ≤ 262144 ∧ s.m.size ≤ 262144 := fun s hs => by
      have := sumS_mem hs
      exact ⟨hOk s hs, by omega, by omega, by omega, by omega⟩
    clear hls hlb hsm hsz
    go_wp2
    go_loopw [4, 5, 6, 7, 8] (fun _ mo i _ _ wr => ∃ k M : Nat, k ≤ L.length ∧ M ≤ 65537 ∧ mo = .int .i64 M ∧ i = .int .i64 k ∧ (∀ j s, L[j]? = some s → j < k → (encS s).2 = 0 ∧ (encB s).size ≤ M) ∧ Hid (Mod (fun _ => False) w wr)) (fun _ _ i _ _ _ => L.length - (intOf i).toNat)
    case atStart => exact ⟨0, 0, by omega, by omega, rfl, rfl, fun _ _ _ h => absurd h (Nat.not_lt_zero _), HM3⟩
    case round =>
      obtain ⟨k, M, hk, hM, rfl, rfl, hok, HM⟩ := hrel
      by_cases hlt : k < L.length
      · obtain ⟨g, o, rfl, _, hg, hc⟩ := hx k L[k] (List.getElem?_eq_getElem hlt)
        have hmem : L[k] ∈ L := List.getElem_mem hlt
        have hLk := List.getElem?_eq_getElem hlt
        obtain ⟨sOk, s1, s2, s3, s4⟩ := hL _ hmem
        generalize hs : L[k] = s at *
        have hc' : ∀ i u, s.cells[i]? = some u → wr.cell? ⟨g, o + k * 13 + i, none⟩ = some u := fun i u hu => (World.cell?_of_block (a := ⟨g, o + k * 13 + i, none⟩) (HM.out.block g hg (fun x => x))).trans (hc i u hu)
        have c0 : wr.cell? ⟨g, o + k * 13, none⟩ = some (.int .u16 s.ty) := hc' 0 _ rfl
        have c1 := hc' 1 _ rfl
        have c2 := hc' 2 _ rfl
        have c3 := hc' 3 _ rfl
        have c4 := hc' 4 _ rfl
        have c5 := hc' 5 _ rfl
        have c6 := hc' 6 _ rfl
        have c7 := hc' 7 _ rfl
        have c8 := hc' 8 _ rfl
        have c9 := hc' 9 _ rfl
        have c10 := hc' 10 _ rfl
        have c11 := hc' 11 _ rfl
        have c12 := hc' 12 _ rfl
        have t1 : decide ((k : Int) < (L.length : Int)) = true := by simp; omega
        have i1 : (0 : Int) ≤ (k : Int) := by omega
        have i2 : (k : Int) < (L.length : Int) := by omega
        have i3 : (L.length : Int) ≤ (cap : Int) := by omega
        have hE := fun U => enc_any s U sOk s1 s2 s3 s4
        unfold St.v St.cells at hE
        clear hc hc'
        go_wp2_with fail
        refine (hE _).mono ?_
        rintro e w4 ⟨rfl, m4⟩
        have HM4 := Lib.hid (HM.out.trans m4)
        clear m4 hE c0 c1 c2 c3 c4 c5 c6 c7 c8 c9 c10 c11 c12
        by_cases he0 : (encS s).2 = 0
        · obtain ⟨z1, z2, -⟩ := encB_size he0
          rw [he0]
          have hR1 : (encS s).1 = encB s := rfl
          rw [hR1]
          have hmx : Max.max (M : Int) ((encB s).size : Int) = ((Max.max M (encB s).size : Nat) : Int) := by omega
          go_wp2
          go_roundw
          case rel =>
            refine ⟨k + 1, Max.max M (encB s).size, by omega, by omega, rfl, by go_num, ?_, HM4⟩
            intro j t hj hjk
            rcases Nat.lt_or_ge j k with g | g
            · obtain ⟨q1, q2⟩ := hok j t hj g
              exact ⟨q1, by omega⟩
            · obtain rfl : j = k := by omega
              rw [hLk] at hj
              injection hj with hj
              rw [← hj]; exact ⟨he0, by omega⟩
          case measure => simp [intOf]; omega
        · have t2 : ((encS s).2 != 0) = true := by simpa using he0
          go_wp2_with fail
          refine (works_any _).mono ?_
          rintro e w5 ⟨rfl, m5⟩
          go_wp2
          go_ret
          exact ⟨rfl, HM4.out.trans m5⟩
      · obtain rfl : k = L.length := by omega
        have t1 : decide ((L.length : Int) < (L.length : Int)) = false := by simp
        have hall : ∀ s ∈ L, (encS s).2 = 0 ∧ (encB s).size ≤ M := fun s hs => by
          obtain ⟨j, hj, rfl⟩ := List.mem_iff_getElem.1 hs
          exact hok j _ (List.getElem?_eq_getElem hj) hj
        have hmax := fun s hs => (hall s hs).2
        have hok := fun s hs => (hall s hs).1
        obtain ⟨B, hB⟩ : ∃ B, L.map encB = B := ⟨_, rfl⟩
        have HM0 := HM
        clear HM
        go_wp2
        go_loopw [4, 9, 10, 11, 12, 13, 14] (fun _ off al i _ _ _ wr => ∃ k j : Nat, k ≤ j ∧ j ≤ L.length ∧ i = .int .i64 k ∧ off = .int .u64 (szB (B.take j)) ∧ al = .string (catB (B.take j)) ∧ Hid (Mod (fun _ => False) w wr)) (fun _ _ _ i _ _ _ _ => L.length + 1 - (intOf i).toNat)
        case atStart => exact ⟨0, 0, by omega, by omega, rfl, rfl, rfl, HM0⟩
        case round =>
          obtain ⟨k, j, hkj, hj, rfl, rfl, rfl, HM⟩ := hrel
          have hjsz : szB (B.take j) ≤ 60 * 65537 := by rw [← hB]; exact szB_enc L j h60
          have hS2 := h.mod HM.out (fun _ _ _ x => x)
          have t1 : decide ((k : Int) ≤ (L.length : Int)) = true := by simp; omega
          have hMw : IntKind.u32.wrap (M : Int) = M := by rw [IntKind.wrap_u32]; omega
          by_cases hk2 : k < n2
          · obtain ⟨q1, g, o, rfl, hg, hc⟩ := h2 k hk2
            have t2 : decide ((k : Int) < (n2 : Int)) = true := by simp; omega
            have c0 : wr.cell? ⟨g, o + k, none⟩ = some (.int .u16 (C k)) := (World.cell?_of_block (a := ⟨g, o + k, none⟩) (HM.out.block g hg (fun x => x))).trans hc
            generalize C k = ck at *
            have i1 : (0 : Int) ≤ (k : Int) := by omega
            have i2 : (k : Int) < (n2 : Int) := by omega
            have hcw : IntKind.u32.wrap (ck : Int) = ck := by rw [IntKind.wrap_u32]; omega
            obtain ⟨ct, hct⟩ : ∃ ct, M + ck = ct := ⟨_, rfl⟩
            have hsw : IntKind.u32.wrap ((M : Int) + (ck : Int)) = (ct : Int) := by rw [IntKind.wrap_u32]; omega
            by_cases hend : j = L.length
            · subst hend
              have hTk : B.take L.length = B := List.take_of_length_le (by rw [← hB, List.length_map]; exact Nat.le_refl _)
              rw [hTk] at hjsz ⊢
              have hW := fun U hU => win_any (.slice a L.length cap) L (szB B) (ct) U hU h60 hL (by omega) (by omega)
              have hW0 := fun U hU => win_any (.slice a L.length cap) L (szB B) 0 U hU h60 hL (by omega) (by omega)
              have hE1 := winS_end (count := ct) hok
              have hE2 := winS_end (count := 0) hok
              rw [hB] at hE1 hE2
              rw [hE1] at hW
              rw [hE2] at hW0
              have hcs := catB_size B
              have hA := fun U => all_any (catB B) U (by omega)
              have hAr := allR_cat fun s hs => ⟨(hL s hs).1, hok s hs⟩
              rw [hB] at hAr
              rw [hAr] at hA
              simp only at hW hW0 hA
              clear hAr hE1 hE2 hTk hmax hok
              generalize catB B = cb at *
              have t5 : (0 : Int) = 0 := rfl
              go_wp2_with fail
              refine (hW _ hS2).mono ?_
              rintro e w5 ⟨rfl, m5⟩
              have hS3 := hS2.mod m5 (fun _ _ _ x => x)
              have HM5 := Lib.hid (HM.out.trans m5)
              clear m5 hS2 hW
              go_wp2_with fail
              refine (hA _).mono ?_
              rintro e w6 ⟨va, rfl, hoa, m6⟩
              have hS4 := hS3.mod m6 (fun _ _ _ x => x)
              have HM6 := Lib.hid (HM5.out.trans m6)
              have hsa := (hoa.sts).imp (Q := fun _ => True) (fun _ _ => trivial)
              clear m6 hoa hS3 HM5 hA
              go_wp2_with fail
              refine (hW0 _ hS4).mono ?_
              rintro e w7 ⟨rfl, m7⟩
              have hS7 := hS4.mod m7 (fun _ _ _ x => x)
              have hsa7 := hsa.mod m7 (fun _ _ _ x => x)
              have HM7 := Lib.hid (HM6.out.trans m7)
              clear m7 HM6 hS4 hsa
              have hSm := same_any _ _ L w7 hsa7 hS7 hlen
              go_wp2_with fail
              refine hSm.mono ?_
              rintro e w8 ⟨rfl, m8⟩
              have HM8 := Lib.hid (HM7.out.trans m8)
              go_wp2_with fail
              refine (works_any _).mono ?_
              rintro e w9 ⟨rfl, m9⟩
              go_wp2
              go_ret
              exact ⟨rfl, HM8.out.trans m9⟩
            obtain ⟨m, hm1, hm2, hm3, hm4, hm5, hm6, hm7, hm8⟩ := winS_from (count := ct) hj hok (fun s hs => Nat.le_trans (hmax s hs) (by omega))
            have hW := fun U hU => win_any (.slice a L.length cap) L (szB (B.take j)) (ct) U hU h60 hL (by omega) (by omega)
            rw [hB] at hm4 hm5 hm6 hm7 hm8
            rw [hm4] at hW
            simp only at hW
            have hmsz : szB (B.take m) ≤ 60 * 65537 := by rw [← hB]; exact szB_enc L m h60
            have hcs := catB_size (B.take j)
            have hm3 := hm3 (by omega)
            generalize catB ((B.drop j).take (m - j)) = wd at *
            have HA := Lib.hid hm7
            have HS := Lib.hid hm5
            have hwr : IntKind.u64.wrap ((szB (B.take j) : Int) + (wd.size : Int)) = ((szB (B.take m) : Nat) : Int) := by rw [IntKind.wrap_u64]; omega
            have hc1 : IntKind.u32.wrap (wd.size : Int) = wd.size := by rw [IntKind.wrap_u32]; omega
            have hc2 : IntKind.u64.wrap (wd.size : Int) = wd.size := by rw [IntKind.wrap_u64]; omega
            have t3 : ¬ (ct < wd.size) := by omega
            have hne : wd ≠ ByteArray.empty := fun x => hend (hm8.1 x)
            have t4 : wd.toList.isEmpty = false := by rw [List.isEmpty_eq_false_iff]; intro x; exact hne (toList_inj (x.trans (ByteArray.toList_eq ByteArray.empty).symm))
            have t5 : (catB (B.take j)).size + wd.size ≤ 9223372036854775807 := by omega
            have HZ := Lib.hid hmsz
            clear hm4 hm5 hm7 hne hm8 hcs hmsz
            go_wp2_with fail
            refine (hW _ hS2).mono ?_
            rintro e w5 ⟨rfl, m5⟩
            have HM5 := Lib.hid (HM.out.trans m5)
            clear m5
            go_wp2
            go_roundw
            case rel => exact ⟨k + 1, m, by omega, hm2, by go_num, rfl, by rw [HA.out], HM5⟩
            case measure => simp [intOf]; omega
          · have t2 : decide ((k : Int) < (n2 : Int)) = false := by simp; omega
            by_cases hend : j = L.length
            · subst hend
              have hTk : B.take L.length = B := List.take_of_length_le (by rw [← hB, List.length_map]; exact Nat.le_refl _)
              rw [hTk] at hjsz ⊢
              have hW := fun U hU => win_any (.slice a L.length cap) L (szB B) (M) U hU h60 hL (by omega) (by omega)
              have hW0 := fun U hU => win_any (.slice a L.length cap) L (szB B) 0 U hU h60 hL (by omega) (by omega)
              have hE1 := winS_end (count := M) hok
              have hE2 := winS_end (count := 0) hok
              rw [hB] at hE1 hE2
              rw [hE1] at hW
              rw [hE2] at hW0
              have hcs := catB_size B
              have hA := fun U => all_any (catB B) U (by omega)
              have hAr := allR_cat fun s hs => ⟨(hL s hs).1, hok s hs⟩
              rw [hB] at hAr
              rw [hAr] at hA
              simp only at hW hW0 hA
              clear hAr hE1 hE2 hTk hmax hok
              generalize catB B = cb at *
              have t5 : (0 : Int) = 0 := rfl
              go_wp2_with fail
              refine (hW _ hS2).mono ?_
              rintro e w5 ⟨rfl, m5⟩
              have hS3 := hS2.mod m5 (fun _ _ _ x => x)
              have HM5 := Lib.hid (HM.out.trans m5)
              clear m5 hS2 hW
              go_wp2_with fail
              refine (hA _).mono ?_
              rintro e w6 ⟨va, rfl, hoa, m6⟩
              have hS4 := hS3.mod m6 (fun _ _ _ x => x)
              have HM6 := Lib.hid (HM5.out.trans m6)
              have hsa := (hoa.sts).imp (Q := fun _ => True) (fun _ _ => trivial)
              clear m6 hoa hS3 HM5 hA
              go_wp2_with fail
              refine (hW0 _ hS4).mono ?_
              rintro e w7 ⟨rfl, m7⟩
              have hS7 := hS4.mod m7 (fun _ _ _ x => x)
              have hsa7 := hsa.mod m7 (fun _ _ _ x => x)
              have HM7 := Lib.hid (HM6.out.trans m7)
              clear m7 HM6 hS4 hsa
              have hSm := same_any _ _ L w7 hsa7 hS7 hlen
              go_wp2_with fail
              refine hSm.mono ?_
              rintro e w8 ⟨rfl, m8⟩
              have HM8 := Lib.hid (HM7.out.trans m8)
              go_wp2_with fail
              refine (works_any _).mono ?_
              rintro e w9 ⟨rfl, m9⟩
              go_wp2
              go_ret
              exact ⟨rfl, HM8.out.trans m9⟩
            obtain ⟨m, hm1, hm2, hm3, hm4, hm5, hm6, hm7, hm8⟩ := winS_from (count := M) hj hok (fun s hs => Nat.le_trans (hmax s hs) (by omega))
            have hW := fun U hU => win_any (.slice a L.length cap) L (szB (B.take j)) (M) U hU h60 hL (by omega) (by omega)
            rw [hB] at hm4 hm5 hm6 hm7 hm8
            rw [hm4] at hW
            simp only at hW
            have hmsz : szB (B.take m) ≤ 60 * 65537 := by rw [← hB]; exact szB_enc L m h60
            have hcs := catB_size (B.take j)
            have hm3 := hm3 (by omega)
            generalize catB ((B.drop j).take (m - j)) = wd at *
            have HA := Lib.hid hm7
            have HS := Lib.hid hm5
            have hwr : IntKind.u64.wrap ((szB (B.take j) : Int) + (wd.size : Int)) = ((szB (B.take m) : Nat) : Int) := by rw [IntKind.wrap_u64]; omega
            have hc1 : IntKind.u32.wrap (wd.size : Int) = wd.size := by rw [IntKind.wrap_u32]; omega
            have hc2 : IntKind.u64.wrap (wd.size : Int) = wd.size := by rw [IntKind.wrap_u64]; omega
            have t3 : ¬ (M < wd.size) := by omega
            have hne : wd ≠ ByteArray.empty := fun x => hend (hm8.1 x)
            have t4 : wd.toList.isEmpty = false := by rw [List.isEmpty_eq_false_iff]; intro x; exact hne (toList_inj (x.trans (ByteArray.toList_eq ByteArray.empty).symm))
            have t5 : (catB (B.take j)).size + wd.size ≤ 9223372036854775807 := by omega
            have HZ := Lib.hid hmsz
            clear hm4 hm5 hm7 hne hm8 hcs hmsz
            go_wp2_with fail
            refine (hW _ hS2).mono ?_
            rintro e w5 ⟨rfl, m5⟩
            have HM5 := Lib.hid (HM.out.trans m5)
            clear m5
            go_wp2
            go_roundw
            case rel => exact ⟨k + 1, m, by omega, hm2, by go_num, rfl, by rw [HA.out], HM5⟩
            case measure => simp [intOf]; omega
  · go_wp2_with fail
    refine (works_any _).mono ?_
    rintro e w4 ⟨rfl, m4⟩
    go_wp2
    go_ret
    exact ⟨rfl, HM3.out.trans m4⟩

set_option maxRecDepth 100000 in
theorem contract (H : Type) (enc : TypeId × Value → H) (W : World) (base : Nat) (args : Array Value) (ds gs : List (DataW H)) (before : List MemPlace)
    (hval : ∀ (j : Nat) t v, Try.f7.params[j]? = some t → args[j]? = some v → Value.okWide Try.prog W .any base t v)
    (hW : DataW.Whole enc Try.prog Try.f7.params.toList Rows.statWholeSpec.vars false W args.toList ds gs before)
    (hsz : (DataW.weightsEach Try.prog (Try.f7.params.toList ++ Rows.statWholeSpec.plain.varTypes Try.prog) (ds ++ gs)).all (· ≤ reachBytes) = true) :
    Calls Try.prog 7 args W fun e W' => ∃ v, e = .returned v ∧ Rows.statWholeSpec.post enc Try.prog Try.f7 false true false false W args v W' := by
  have hW' := hW
  obtain ⟨p, q, hA0, hV, rfl, hfz, hnd⟩ := hW
  have hA : DataW.TrodAll enc Try.prog W 0 (fun _ => true) true Try.f7.params.toList args.toList ds p := hA0
  rw [Try.params7] at hA hval hsz
  obtain ⟨v0, vs0, d0, ds0, p0, q0, hargs, rfl, rfl, h0, r0⟩ := trodAll_cons hA
  obtain ⟨v1, vs1, d1, ds1, p1, q1, rfl, rfl, rfl, h1, r1⟩ := trodAll_cons r0
  obtain ⟨rfl, rfl, rfl⟩ := trodAll_nil r1
  obtain rfl : args = #[v0, v1] := by cases args; simp_all
  have hv1 := hval 1 48 v1 rfl rfl
  obtain ⟨L, hS, hk, hw⟩ := arg_stats (hval 0 30 v0 rfl rfl) h0
  obtain ⟨a2, n2, cap2, C, rfl, hl2, h2⟩ := arg_u16s hv1 h1
  obtain ⟨a, cap, rfl, _, _⟩ := hS.form
  clear hA0
  obtain ⟨b0, hb⟩ := hw fun k hkm => by
    have := List.all_eq_true.1 hsz k (DataW.weights_mem_each (j := 0) (t := 30) rfl rfl k hkm)
    simpa using this
  unfold reachBytes at b0 hb
  refine (walk a cap L a2 n2 cap2 C W hS (by omega) hk (fun s hs => by have := hb s hs; omega) h2).mono fun e W' ⟨he, hg⟩ => ?_
  subst he
  exact ⟨_, rfl, law_post hW' hg (by kernel_rfl) rfl rfl rfl rfl rfl⟩

set_option maxRecDepth 100000 in
theorem lifted (os : Os) (started : os.Started) (H : Type) (enc : TypeId × Value → H) :
    ReturnsInHanded {} Try.checked os 7 .any (Rows.statWholeSpec.pre6 enc Try.prog Try.f7 Rows.statWholeRow.domain false) (Rows.statWholeSpec.post enc Try.prog Try.f7 false true false false) := by
  refine returnsInHanded_of_change_sized (C := Try.checked) own_knob started (by kernel_rfl) Try.func7
    (ChangeSpec.witness6 (enc := enc) (C := Try.checked) false ⟨#[], #[.slice none 0 0, .slice none 0 0], []⟩ 8 (by kernel_rfl) (by kernel_rfl) (by kernel_rfl) (by kernel_rfl)) ?_
  intro W base args ds gs before hval hW _ hsz _
  exact contract H enc W base args ds gs before hval hW hsz

theorem proved : Rows.StatWholeSaid :=
  OpenClaim.holds_of_wide 7 Try.f7 rfl rfl rfl rfl rfl rfl rfl ⟨rfl, rfl, rfl, rfl, rfl⟩ rfl rfl rfl rfl rfl (by kernel_rfl) Try.func7 (by kernel_rfl)
    (of_decide_eq_true (by kernel_rfl)) (by unfold Func.isWrapper; first | (rw [if_pos (by decide +kernel)]; kernel_rfl) | (rw [if_neg (by decide +kernel)]; exact ⟨rfl, rfl⟩))
    (fun os started H enc _ => lifted os started H enc)
end Go.Proofs.Ytjhhknmdnkkknaa.statWhole
