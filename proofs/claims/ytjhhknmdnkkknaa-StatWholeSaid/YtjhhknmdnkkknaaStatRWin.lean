/- The document's Window. -/
import Derived.Test.YtjhhknmdnkkknaaStatREnc
import Derived.Test.YtjhhknmdnkkknaaStatSame
import Derived.Test.YtjhhknmdnkkknaaPWin
namespace Go.Proofs.Ytjhhknmdnkkknaa
open Go.RowKit

/-- the window that is being filled, when so many stats are seen -/
def WinAt (B : List ByteArray) (off count k : Nat) (acc : ByteArray) : Prop :=
  ∃ j, j < k ∧ dropTo off B 0 = some (B.drop j) ∧ (∀ h : j < B.length, ¬ count < B[j].size) ∧ 0 < acc.size ∧ fillW count (B.drop j) ByteArray.empty = fillW count (B.drop k) acc ∧ acc.size ≤ k * 65537
theorem WinAt.first {B : List ByteArray} {off count k : Nat} (hk : k < B.length) (hd : dropTo off B 0 = dropTo off (B.drop k) (szB (B.take k))) (he : szB (B.take k) = off) (hc : ¬ count < B[k].size) (hp : 0 < B[k].size) (hm : B[k].size ≤ 65537) : WinAt B off count (k + 1) B[k] := by
  refine ⟨k, by omega, hd.trans (dropTo_hit off B k hk he), fun _ => hc, hp, ?_, by omega⟩
  rw [fillW_go count B k hk ByteArray.empty (by show ¬ count < 0 + _; omega)]
  first | (congr 1; done) | (congr 1; exact ByteArray.empty_append)
theorem WinAt.next {B : List ByteArray} {off count k : Nat} {acc : ByteArray} (h : WinAt B off count k acc) (hk : k < B.length) (hc : ¬ count < acc.size + B[k].size) (hm : B[k].size ≤ 65537) : WinAt B off count (k + 1) (acc ++ B[k]) := by
  obtain ⟨j, h1, h2, h3, h4, h5, h6⟩ := h
  exact ⟨j, by omega, h2, h3, by rw [ByteArray.size_append]; omega, h5.trans (fillW_go count B k hk acc hc), by rw [ByteArray.size_append]; omega⟩
theorem WinAt.val {L : List St} {off count k : Nat} {acc : ByteArray} (h : WinAt (L.map encB) off count k acc) (hk : k ≤ (L.map encB).length) (hall : ∀ s ∈ L, (encS s).2 = 0) : winS L off count = (fillW count ((L.map encB).drop k) acc, 0) := by
  obtain ⟨j, h1, h2, h3, h4, h5, h6⟩ := h
  have hj : j < (L.map encB).length := by omega
  rw [winS_ok hall, h2, List.drop_eq_getElem_cons hj]
  simp only
  rw [if_neg (h3 hj), ← List.drop_eq_getElem_cons hj, h5]

theorem ne_empty {a : ByteArray} (h : 0 < a.size) : (a.toList == ([] : List UInt8)) = false := by
  rw [ByteArray.toList_eq]
  have : a.data.toList.length = a.size := Array.length_toList
  cases hl : a.data.toList with
  | nil => rw [hl] at this; simp at this; omega
  | cons x l => rfl
set_option maxRecDepth 100000 in
set_option maxHeartbeats 4000000 in
theorem rwin_any (v : Value) (L : List St) (off count : Nat) (w : World) (h : StsAt w (fun _ => True) v L) (hlen : L.length ≤ 60)
    (hL : ∀ s ∈ L, s.Ok ∧ s.n.size ≤ 262144 ∧ s.u.size ≤ 262144 ∧ s.g.size ≤ 262144 ∧ s.m.size ≤ 262144) (hcount : count < 4294967296) :
    Calls Try.prog 15 #[v, .int .u64 off, .int .u32 count] w fun e w' => e = .returned (.tuple #[.string (winS L off count).1, .int .i64 (winS L off count).2]) ∧ Mod (fun _ => False) w w' := by
  obtain ⟨a, cap, rfl, hcap, hx⟩ := h.form
  obtain ⟨B, hB⟩ : ∃ B, L.map encB = B := ⟨_, rfl⟩
  have hBl : B.length = L.length := by rw [← hB, List.length_map]
  have hB0 : ∀ b ∈ B, b.size ≤ 65537 := fun b hb => by
    rw [← hB] at hb
    obtain ⟨s, _, rfl⟩ := List.mem_map.1 hb
    exact encB_le s
  go_enter Try.func15, Try.ntmps15
  go_wp2
  go_loopw [6, 7, 11, 12, 13] (fun _ _ i _ _ wr => ∃ k : Nat, k ≤ L.length ∧ i = .int .i64 k ∧ (∀ j s, L[j]? = some s → j < k → (encS s).2 = 0) ∧ Hid (Mod (fun _ => False) w wr)) (fun _ _ i _ _ _ => L.length - (intOf i).toNat)
  case atStart => exact ⟨0, by omega, rfl, fun _ _ _ h => absurd h (Nat.not_lt_zero _), Mod.refl _ _⟩
  case round =>
    obtain ⟨k, hk, rfl, hok, HM⟩ := hrel
    by_cases hlt : k < L.length
    · obtain ⟨g, o, rfl, _, hg, hc⟩ := hx k L[k] (List.getElem?_eq_getElem hlt)
      have hmem : L[k] ∈ L := List.getElem_mem hlt
      have hLk := List.getElem?_eq_getElem hlt
      obtain ⟨sOk, s1, s2, s3, s4⟩ := hL _ hmem
      generalize hs : L[k] = s at *
      have hc' : ∀ i u, s.cells[i]? = some u → wr.cell? ⟨g, o + k * 13 + i, none⟩ = some u := fun i u hu => (World.cell?_of_block (a := ⟨g, o + k * 13 + i, none⟩) (HM.out.block g hg (fun x => x))).trans (hc i u hu)
      have c0 : (wr).cell? ⟨g, o + k * 13, none⟩ = some (.int .u16 (s).ty) := hc' 0 _ rfl
      have c1 := hc' 1 _ rfl
      have c2 := hc' 2 _ rfl
      have c3 := hc' 3 _ rfl
      have c4 := hc' 4 _ rfl
      have c5 := hc' 5 _ rfl
      have c6 := hc' 6 _ rfl
      have c7 := hc' 7 _ rfl
      have c8 := hc' 8 _ rfl
      have c9 := hc' 9 _ rfl
      have c10 := hc' 10 _ rfl
      have c11 := hc' 11 _ rfl
      have c12 := hc' 12 _ rfl
      have t1 : decide ((k : Int) < (L.length : Int)) = true := by simp; omega
      have i1 : (0 : Int) ≤ (k : Int) := by omega
      have i2 : (k : Int) < (L.length : Int) := by omega
      have i3 : (L.length : Int) ≤ (cap : Int) := by omega
      have hE := fun U => renc_any s U sOk s1 s2 s3 s4
      unfold St.v St.cells at hE
      clear hc hc'
      go_wp2_with fail
      refine (hE _).mono ?_
      rintro e w3 ⟨rfl, m3⟩
      have HM3 := Lib.hid (HM.out.trans m3)
      clear m3 hE c0 c1 c2 c3 c4 c5 c6 c7 c8 c9 c10 c11 c12
      by_cases he : (encS s).2 ≠ 0
      · have hwv : Hid (winS L off count = (ByteArray.empty, 4)) := winS_bad hmem he
        rw [encS_bad he]
        go_wp2
        go_ret2
        exact ⟨by rw [hwv.out]; rfl, HM3.out⟩
      · have he0 : (encS s).2 = 0 := by omega
        rw [he0]
        go_wp2
        go_roundw
        case rel =>
          refine ⟨k + 1, hlt, by go_num, ?_, HM3⟩
          intro j t hj hjk
          rcases Nat.lt_or_ge j k with g | g
          · exact hok j t hj g
          · obtain rfl : j = k := by omega
            rw [hLk] at hj
            injection hj with hj
            rw [← hj]; exact he0
        case measure => simp [intOf]; omega
    · obtain rfl : k = L.length := by omega
      have t1 : decide ((L.length : Int) < (L.length : Int)) = false := by simp
      have hall : ∀ s ∈ L, (encS s).2 = 0 := fun s hs => by
        obtain ⟨j, hj, rfl⟩ := List.mem_iff_getElem.1 hs
        exact hok j _ (List.getElem?_eq_getElem hj) hj
      have HAll := Lib.hid hall
      have HW := Lib.hid (winS_ok (off := off) (count := count) hall)
      rw [hB] at HW
      clear hok hall
      go_wp2
      go_loopw [6, 7, 8, 9, 10, 14, 15, 16] (fun _ _ at_ out fd i _ _ wr => ∃ k : Nat, k ≤ L.length ∧ i = .int .i64 k ∧ at_ = .int .u64 (szB (B.take k)) ∧ Hid (Mod (fun _ => False) w wr) ∧
        ((fd = .bool false ∧ out = .string { data := #[] } ∧ Hid (dropTo off B 0 = dropTo off (B.drop k) (szB (B.take k)))) ∨ (fd = .bool true ∧ ∃ acc, out = .string acc ∧ Hid (WinAt B off count k acc)))) (fun _ _ _ _ _ i _ _ _ => L.length + 1 - (intOf i).toNat)
      case atStart => exact ⟨0, by omega, rfl, rfl, HM, Or.inl ⟨rfl, rfl, rfl⟩⟩
      case round =>
        obtain ⟨k, hk, rfl, rfl, HM2, hst⟩ := hrel
        have hA1 : szB (B.take k) ≤ 60 * 65537 := by rw [← hB]; exact szB_enc L k hlen
        have t0 : decide ((k : Int) ≤ (L.length : Int)) = true := by simp; omega
        by_cases hlt : k < L.length
        · obtain ⟨g, o, rfl, _, hg, hc⟩ := hx k L[k] (List.getElem?_eq_getElem hlt)
          have hmem : L[k] ∈ L := List.getElem_mem hlt
          have he0 := HAll.out _ hmem
          have hkB : k < B.length := by omega
          have hBk : B[k] = encB L[k] := by simp only [← hB, List.getElem_map]
          obtain ⟨sOk, s1, s2, s3, s4⟩ := hL _ hmem
          generalize hs : L[k] = s at *
          have hc' : ∀ i u, s.cells[i]? = some u → wr.cell? ⟨g, o + k * 13 + i, none⟩ = some u := fun i u hu => (World.cell?_of_block (a := ⟨g, o + k * 13 + i, none⟩) (HM2.out.block g hg (fun x => x))).trans (hc i u hu)
          have c0 : (wr).cell? ⟨g, o + k * 13, none⟩ = some (.int .u16 (s).ty) := hc' 0 _ rfl
          have c1 := hc' 1 _ rfl
          have c2 := hc' 2 _ rfl
          have c3 := hc' 3 _ rfl
          have c4 := hc' 4 _ rfl
          have c5 := hc' 5 _ rfl
          have c6 := hc' 6 _ rfl
          have c7 := hc' 7 _ rfl
          have c8 := hc' 8 _ rfl
          have c9 := hc' 9 _ rfl
          have c10 := hc' 10 _ rfl
          have c11 := hc' 11 _ rfl
          have c12 := hc' 12 _ rfl
          have t1 : ((k : Int) == (L.length : Int)) = false := by simp; omega
          have i1 : (0 : Int) ≤ (k : Int) := by omega
          have i2 : (k : Int) < (L.length : Int) := by omega
          have i3 : (L.length : Int) ≤ (cap : Int) := by omega
          have hE := fun U => renc_any s U sOk s1 s2 s3 s4
          rw [he0, show (encS s).1 = encB s from rfl] at hE
          unfold St.v St.cells at hE
          obtain ⟨z1, z2, z3⟩ := encB_size he0
          clear z3
          have hsucc := szB_succ B k hkB
          rw [hBk] at hsucc
          have hwr : IntKind.u64.wrap ((szB (B.take k) : Int) + ((encB s).size : Int)) = ((szB (B.take (k + 1)) : Nat) : Int) := by rw [IntKind.wrap_u64, hsucc]; omega
          have hcv : IntKind.u64.wrap ((encB s).size : Int) = (encB s).size := by rw [IntKind.wrap_u64]; omega
          have hcv2 : IntKind.u64.wrap (count : Int) = count := by rw [IntKind.wrap_u64]; omega
          have hmiss := dropTo_miss off B k hkB
          have hfirst := fun h1 h2 h3 => @WinAt.first B off count k hkB h1 h2 h3 (by rw [hBk]; omega) (by rw [hBk]; omega)
          have hnext := fun acc h1 h2 => @WinAt.next B off count k acc h1 hkB h2 (by rw [hBk]; omega)
          have hhit := dropTo_hit off B k hkB
          have hdg := List.drop_eq_getElem_cons hkB
          rw [hBk] at hfirst hnext hdg
          have HSU := Lib.hid hsucc
          have HBk := Lib.hid hBk
          clear hsucc hc hc' hs hBk
          generalize hAk : szB (B.take k) = A at *
          generalize hAk2 : szB (B.take (k + 1)) = A' at *
          have HAK := Lib.hid hAk
          have HAK2 := Lib.hid hAk2
          clear hAk hAk2
          generalize encB s = bb at *
          rcases hst with ⟨rfl, rfl, hd⟩ | ⟨rfl, acc, rfl, hW⟩
          · by_cases hat : A = off
            · have t2 : ((A : Int) == (off : Int)) = true := by simp; omega
              have HW2 := HW.out
              rw [hd.out, hhit hat, hdg] at HW2
              simp only at HW2
              have hd' := hd.out
              by_cases hbig : count < bb.size
              · rw [if_pos hbig] at HW2
                have HV := Lib.hid HW2
                have t3 : decide ((count : Int) < (bb.size : Int)) = true := by simp; omega
                clear hat hmiss hfirst hnext hhit HW2 hd'
                go_wp2_with fail
                refine (hE _).mono ?_
                rintro e w3 ⟨rfl, m3⟩
                have HM3 := Lib.hid (HM2.out.trans m3)
                clear m3 hE
                go_wp2
                go_ret2
                exact ⟨by rw [HV.out]; rfl, HM3.out⟩
              · have t3 : decide ((count : Int) < (bb.size : Int)) = false := by simp; omega
                have HWA := Lib.hid (hfirst hd' hat hbig)
                clear hat hmiss hfirst hnext hhit HW2 hd'
                have hap : (⟨#[]⟩ : ByteArray) ++ bb = bb := ByteArray.empty_append
                go_wp2_with fail
                refine (hE _).mono ?_
                rintro e w3 ⟨rfl, m3⟩
                have HM3 := Lib.hid (HM2.out.trans m3)
                clear m3 hE
                go_wp2
                go_roundw
                case rel => exact ⟨k + 1, hlt, by go_num, by rw [HAK2.out], HM3, Or.inr ⟨rfl, _, rfl, by first | exact HWA | (rw [hap]; exact HWA)⟩⟩
                case measure => simp [intOf]; omega
            · have t2 : ((A : Int) == (off : Int)) = false := by simp; omega
              have HD := Lib.hid (hd.out.trans (hmiss hat))
              clear hat hmiss hfirst hnext hhit
              go_wp2_with fail
              refine (hE _).mono ?_
              rintro e w3 ⟨rfl, m3⟩
              have HM3 := Lib.hid (HM2.out.trans m3)
              clear m3 hE
              go_wp2
              go_roundw
              case rel => exact ⟨k + 1, hlt, by go_num, by rw [HAK2.out], HM3, Or.inl ⟨rfl, rfl, by rw [HAK2.out]; exact HD⟩⟩
              case measure => simp [intOf]; omega
          · have hWv := hW.out
            have hpos : 0 < acc.size := by obtain ⟨j, _, _, _, h4, _⟩ := hWv; exact h4
            have hle : acc.size ≤ 60 * 65537 := by
              obtain ⟨j, _, _, _, _, _, h6⟩ := hWv
              exact Nat.le_trans h6 (Nat.mul_le_mul (by omega) (Nat.le_refl _))
            have hval := WinAt.val (L := L) (k := k) (acc := acc) (off := off) (count := count) (by rw [hB]; exact hWv) (by rw [hB]; omega) HAll.out
            rw [hB] at hval
            have hsw : IntKind.i64.wrap ((acc.size : Int) + (bb.size : Int)) = ((acc.size + bb.size : Nat) : Int) := by rw [IntKind.wrap_i64]; omega
            have hsw2 : IntKind.u64.wrap ((acc.size + bb.size : Nat) : Int) = ((acc.size + bb.size : Nat) : Int) := by rw [IntKind.wrap_u64]; omega
            have hnx := hnext acc hWv
            have hstop := fun h => fillW_stop count B k hkB acc h
            rw [show B[k] = bb from HBk.out] at hstop
            clear hWv hnext hfirst hmiss hhit hW
            have hem : (acc.toList == ([] : List UInt8)) = false := ne_empty hpos
            clear hpos
            by_cases hst : count < acc.size + bb.size
            · have t5 : decide ((count : Int) < ((acc.size + bb.size : Nat) : Int)) = true := by simp; omega
              rw [hstop hst] at hval
              have HV := Lib.hid hval
              clear hval hstop hnx
              by_cases hat : A = off
              · have t2 : ((A : Int) == (off : Int)) = true := by simp; omega
                clear hat
                go_wp2_with fail
                refine (hE _).mono ?_
                rintro e w3 ⟨rfl, m3⟩
                have HM3 := Lib.hid (HM2.out.trans m3)
                clear m3 hE
                go_wp2
                go_ret2
                exact ⟨by rw [HV.out]; rfl, HM3.out⟩
              · have t2 : ((A : Int) == (off : Int)) = false := by simp; omega
                clear hat
                go_wp2_with fail
                refine (hE _).mono ?_
                rintro e w3 ⟨rfl, m3⟩
                have HM3 := Lib.hid (HM2.out.trans m3)
                clear m3 hE
                go_wp2
                go_ret2
                exact ⟨by rw [HV.out]; rfl, HM3.out⟩
            · have t5 : decide ((count : Int) < ((acc.size + bb.size : Nat) : Int)) = false := by simp; omega
              have HN := Lib.hid (hnx hst)
              clear hval hstop hnx
              by_cases hat : A = off
              · have t2 : ((A : Int) == (off : Int)) = true := by simp; omega
                clear hat
                go_wp2_with fail
                refine (hE _).mono ?_
                rintro e w3 ⟨rfl, m3⟩
                have HM3 := Lib.hid (HM2.out.trans m3)
                clear m3 hE
                go_wp2
                go_roundw
                case rel => exact ⟨k + 1, hlt, by go_num, by rw [HAK2.out], HM3, Or.inr ⟨rfl, _, rfl, HN⟩⟩
                case measure => simp [intOf]; omega
              · have t2 : ((A : Int) == (off : Int)) = false := by simp; omega
                clear hat
                go_wp2_with fail
                refine (hE _).mono ?_
                rintro e w3 ⟨rfl, m3⟩
                have HM3 := Lib.hid (HM2.out.trans m3)
                clear m3 hE
                go_wp2
                go_roundw
                case rel => exact ⟨k + 1, hlt, by go_num, by rw [HAK2.out], HM3, Or.inr ⟨rfl, _, rfl, HN⟩⟩
                case measure => simp [intOf]; omega
        · obtain rfl : k = L.length := by omega
          have t1 : ((L.length : Int) == (L.length : Int)) = true := by simp
          have htk : B.take L.length = B := by rw [← hBl]; exact List.take_length
          have htk2 := dropTo_end off B
          rw [hBl, htk] at htk2
          rcases hst with ⟨rfl, rfl, hd⟩ | ⟨rfl, acc, rfl, hW⟩
          · have hd' := hd.out
            rw [htk, htk2] at hd'
            rw [htk] at hA1 ⊢
            clear hd htk htk2
            generalize szB B = A at *
            by_cases hat : A = off
            · have t2 : ((A : Int) == (off : Int)) = true := by simp; omega
              have HW2 := HW.out
              rw [hd', if_pos hat] at HW2
              have HV := Lib.hid HW2
              clear hat HW2 hd'
              go_wp2
              go_ret2
              exact ⟨by rw [HV.out]; rfl, HM2.out⟩
            · have t2 : ((A : Int) == (off : Int)) = false := by simp; omega
              have HW2 := HW.out
              rw [hd', if_neg hat] at HW2
              have HV := Lib.hid HW2
              clear hat HW2 hd'
              go_wp2
              go_ret2
              exact ⟨by rw [HV.out]; rfl, HM2.out⟩
          · have hval := WinAt.val (L := L) (k := L.length) (acc := acc) (off := off) (count := count) (by rw [hB]; exact hW.out) (by rw [hB]; omega) HAll.out
            rw [hB, ← hBl, fillW_end] at hval
            have HV := Lib.hid hval
            clear hval htk2
            rw [htk] at hA1 ⊢
            clear htk
            generalize szB B = A at *
            by_cases hat : A = off
            · have t2 : ((A : Int) == (off : Int)) = true := by simp; omega
              clear hat
              go_wp2
              go_ret2
              exact ⟨by rw [HV.out]; rfl, HM2.out⟩
            · have t2 : ((A : Int) == (off : Int)) = false := by simp; omega
              clear hat
              go_wp2
              go_ret2
              exact ⟨by rw [HV.out]; rfl, HM2.out⟩
end Go.Proofs.Ytjhhknmdnkkknaa
