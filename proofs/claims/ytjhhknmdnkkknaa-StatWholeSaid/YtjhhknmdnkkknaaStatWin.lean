/- Package stat's Window. -/
import Derived.Test.YtjhhknmdnkkknaaStatEnc
import Derived.Test.YtjhhknmdnkkknaaSts
import Derived.Test.YtjhhknmdnkkknaaPWin
namespace Go.Proofs.Ytjhhknmdnkkknaa
open Go.RowKit

theorem info_str : (Try.prog.info? 9).map (fun i => (i.zero, i.size, i.bytes)) = some (some (.string ByteArray.empty), 1, 16) := by kernel_rfl
/-- where the window begins, when so many stats are seen -/
def FromAt (B : List ByteArray) (off k : Nat) (fr : Value) : Prop :=
  (fr = .int .i64 (-1) ∧ dropTo off B 0 = dropTo off (B.drop k) (szB (B.take k))) ∨ ∃ j, j < k ∧ fr = .int .i64 j ∧ dropTo off B 0 = some (B.drop j) ∧ off < szB (B.take k)
theorem FromAt.miss {B : List ByteArray} {off k : Nat} {fr : Value} (h : FromAt B off k fr) (hk : k < B.length) (hne : szB (B.take k) ≠ off) : FromAt B off (k + 1) fr := by
  rcases h with ⟨h1, h2⟩ | ⟨j, h1, h2, h3, h4⟩
  · exact Or.inl ⟨h1, h2.trans (dropTo_miss off B k hk hne)⟩
  · exact Or.inr ⟨j, by omega, h2, h3, by rw [szB_succ B k hk]; omega⟩
theorem FromAt.hit {B : List ByteArray} {off k : Nat} {fr : Value} (h : FromAt B off k fr) (hk : k < B.length) (he : szB (B.take k) = off) (hp : 0 < B[k].size) : FromAt B off (k + 1) (.int .i64 k) := by
  rcases h with ⟨h1, h2⟩ | ⟨j, h1, h2, h3, h4⟩
  · exact Or.inr ⟨k, by omega, rfl, h2.trans (dropTo_hit off B k hk he), by rw [szB_succ B k hk]; omega⟩
  · omega

set_option maxRecDepth 100000 in
set_option maxHeartbeats 4000000 in
theorem win_any (v : Value) (L : List St) (off count : Nat) (w : World) (h : StsAt w (fun _ => True) v L) (hlen : L.length ≤ 60)
    (hL : ∀ s ∈ L, s.Ok ∧ s.n.size ≤ 262144 ∧ s.u.size ≤ 262144 ∧ s.g.size ≤ 262144 ∧ s.m.size ≤ 262144) (hoff : off < 18446744073709551616) (hcount : count < 4294967296) :
    Calls Try.prog 14 #[v, .int .u64 off, .int .u32 count] w fun e w' => e = .returned (.tuple #[.string (winS L off count).1, .int .i64 (winS L off count).2]) ∧ Mod (fun _ => False) w w' := by
  obtain ⟨a, cap, rfl, hcap, hx⟩ := h.form
  obtain ⟨B, hB⟩ : ∃ B, L.map encB = B := ⟨_, rfl⟩
  have hBl : B.length = L.length := by rw [← hB, List.length_map]
  have hB0 : ∀ b ∈ B, b.size ≤ 65537 := fun b hb => by
    rw [← hB] at hb
    obtain ⟨s, _, rfl⟩ := List.mem_map.1 hb
    exact encB_le s
  go_enter Try.func14, Try.ntmps14
  go_wp2
  go_loopw [6, 7, 8, 9, 10, 11, 12, 13, 14, 20] (fun _ _ al fr at_ _ _ _ _ i wr => ∃ k : Nat, k ≤ L.length ∧ i = .int .i64 k ∧ at_ = .int .u64 (szB (B.take k)) ∧ (∀ j s, L[j]? = some s → j < k → (encS s).2 = 0) ∧ OwnA wr w.heap.size 1 al k ((B.take k).map Value.string) ∧ Hid (Mod (fun _ => False) w wr) ∧ Hid (FromAt B off k fr)) (fun _ _ _ _ _ _ _ _ _ i _ => L.length - (intOf i).toNat)
  case atStart => exact ⟨0, by omega, rfl, rfl, fun _ _ _ h => absurd h (Nat.not_lt_zero _), OwnA.nil _ _ _, Mod.refl _ _, Or.inl ⟨rfl, rfl⟩⟩
  case round =>
    obtain ⟨k, hk, rfl, rfl, hok, hown, HM, HF⟩ := hrel
    by_cases hlt : k < L.length
    · obtain ⟨g, o, rfl, _, hg, hc⟩ := hx k L[k] (List.getElem?_eq_getElem hlt)
      have hmem : L[k] ∈ L := List.getElem_mem hlt
      have hkB : k < B.length := by omega
      have hBk : B[k] = encB L[k] := by simp only [← hB, List.getElem_map]
      have hLk := List.getElem?_eq_getElem hlt
      obtain ⟨sOk, s1, s2, s3, s4⟩ := hL _ hmem
      generalize hs : L[k] = s at *
      have hc' : ∀ i u, s.cells[i]? = some u → wr.cell? ⟨g, o + k * 13 + i, none⟩ = some u := fun i u hu => (World.cell?_of_block (a := ⟨g, o + k * 13 + i, none⟩) (HM.out.block g hg (fun x => x))).trans (hc i u hu)
      have c0 : wr.cell? ⟨g, o + k * 13, none⟩ = some (.int .u16 s.ty) := hc' 0 _ rfl
      have c1 := hc' 1 _ rfl
      have c2 := hc' 2 _ rfl
      have c3 := hc' 3 _ rfl
      have c4 := hc' 4 _ rfl
      have c5 := hc' 5 _ rfl
      have c6 := hc' 6 _ rfl
      have c7 := hc' 7 _ rfl
      have c8 := hc' 8 _ rfl
      have c9 := hc' 9 _ rfl
      have c10 := hc' 10 _ rfl
      have c11 := hc' 11 _ rfl
      have c12 := hc' 12 _ rfl
      have t1 : decide ((k : Int) < (L.length : Int)) = true := by simp; omega
      have i1 : (0 : Int) ≤ (k : Int) := by omega
      have i2 : (k : Int) < (L.length : Int) := by omega
      have i3 : (L.length : Int) ≤ (cap : Int) := by omega
      obtain ⟨W2, hW2⟩ : ∃ W2, wr.alloc (.cells s.cells.toArray 28) = W2 := ⟨_, rfl⟩
      have hX : W2.heap[wr.heap.size]? = some (.cells s.cells.toArray 28 (0, 0)) := by subst hW2; exact new_at _ _
      have m2 : Mod (fun _ => False) wr W2 := by subst hW2; exact (Mod.refl _ _).alloc _
      unfold St.cells at hX hW2
      obtain ⟨d0, d1, d2, d3, d4, d5, d6, d7, d8, d9, d10, d11, d12⟩ : ((W2).cell? ⟨wr.heap.size, 0, none⟩ = some (.int .u16 s.ty) ∧ (W2).cell? ⟨wr.heap.size, 1, none⟩ = some (.int .u32 s.dev) ∧ (W2).cell? ⟨wr.heap.size, 2, none⟩ = some (.int .u8 s.qt) ∧ (W2).cell? ⟨wr.heap.size, 3, none⟩ = some (.int .u32 s.qv) ∧ (W2).cell? ⟨wr.heap.size, 4, none⟩ = some (.int .u64 s.qp) ∧ (W2).cell? ⟨wr.heap.size, 5, none⟩ = some (.int .u32 s.mo) ∧ (W2).cell? ⟨wr.heap.size, 6, none⟩ = some (.int .u32 s.at_) ∧ (W2).cell? ⟨wr.heap.size, 7, none⟩ = some (.int .u32 s.mt) ∧ (W2).cell? ⟨wr.heap.size, 8, none⟩ = some (.int .u64 s.len) ∧ (W2).cell? ⟨wr.heap.size, 9, none⟩ = some (.string s.n) ∧ (W2).cell? ⟨wr.heap.size, 10, none⟩ = some (.string s.u) ∧ (W2).cell? ⟨wr.heap.size, 11, none⟩ = some (.string s.g) ∧ (W2).cell? ⟨wr.heap.size, 12, none⟩ = some (.string s.m)) := ⟨(cell_of (w := W2) hX 0).trans rfl, (cell_of (w := W2) hX 1).trans rfl, (cell_of (w := W2) hX 2).trans rfl, (cell_of (w := W2) hX 3).trans rfl, (cell_of (w := W2) hX 4).trans rfl, (cell_of (w := W2) hX 5).trans rfl, (cell_of (w := W2) hX 6).trans rfl, (cell_of (w := W2) hX 7).trans rfl, (cell_of (w := W2) hX 8).trans rfl, (cell_of (w := W2) hX 9).trans rfl, (cell_of (w := W2) hX 10).trans rfl, (cell_of (w := W2) hX 11).trans rfl, (cell_of (w := W2) hX 12).trans rfl⟩
      have hown2 := hown.mod m2 (fun _ _ x => x)
      have HM2 := Lib.hid (HM.out.trans m2)
      have hE := fun U => enc_any s U sOk s1 s2 s3 s4
      unfold St.v St.cells at hE
      clear hc hc' hX m2
      go_wp2_with fail
      refine (hE _).mono ?_
      rintro e w3 ⟨rfl, m3⟩
      have hown3 := hown2.mod m3 (fun _ _ x => x)
      have HM3 := Lib.hid (HM2.out.trans m3)
      clear m3 hE d0 d1 d2 d3 d4 d5 d6 d7 d8 d9 d10 d11 d12 c0 c1 c2 c3 c4 c5 c6 c7 c8 c9 c10 c11 c12 hown2 hown HM2
      by_cases he : (encS s).2 ≠ 0
      · have hwv : Hid (winS L off count = (ByteArray.empty, 4)) := winS_bad hmem he
        rw [encS_bad he]
        go_wp2
        go_ret2
        exact ⟨by rw [hwv.out]; rfl, HM3.out⟩
      · have he0 : (encS s).2 = 0 := by omega
        obtain ⟨z1, z2, z3⟩ := encB_size he0
        rw [he0]
        have hA1 : szB (B.take k) ≤ 60 * 65537 := by rw [← hB]; exact szB_enc L k hlen
        have hsucc := szB_succ B k hkB
        rw [hBk] at hsucc
        have hwr : IntKind.u64.wrap ((szB (B.take k) : Int) + ((encB s).size : Int)) = ((szB (B.take (k + 1)) : Nat) : Int) := by rw [IntKind.wrap_u64, hsucc]; omega
        have hcv : IntKind.u64.wrap ((encB s).size : Int) = (encB s).size := by rw [IntKind.wrap_u64]; omega
        have hR1 : (encS s).1 = encB s := rfl
        rw [hR1]
        have hFr := HF
        have C1 : Hid ((k + 1) * 16 ≤ 140737488355328) := by show _ ≤ _; omega
        have C2 : Hid (k + 1 ≤ 9223372036854775807) := by show _ ≤ _; omega
        have C3 : Hid (w.heap.size ≤ (w3.alloc (.cells #[.string (encB s)] 9)).heap.size) := by show _ ≤ _; rw [World.size_alloc]; have := HM3.out.size; omega
        have C5 : Hid (Src Try.prog 1 69 (.slice (some ⟨w3.heap.size, 0, none⟩) 1 1) 1 [.string (encB s)] (w3.alloc (.cells #[.string (encB s)] 9))) := Src.ofSlice _ Try.underlying69 _ _ _ _ rfl (new_one _ _ _) (by intro u hu; rcases List.mem_singleton.1 hu with rfl; rfl)
        have hown4 := hown3.mod (S := fun _ => False) ((Mod.refl _ w3).alloc (.cells #[.string (encB s)] 9)) (fun _ _ x => x)
        have hBs : Hid ((B.take (k + 1)).map Value.string = (B.take k).map Value.string ++ [.string (encB s)]) := by show _ = _; rw [List.take_succ_eq_append_getElem hkB, List.map_append, hBk]; rfl
        clear hown3 hs z3
        have HSU := Lib.hid hsucc
        clear hsucc
        generalize hAk : szB (B.take k) = A at *
        have HAK := Lib.hid hAk
        clear hAk
        generalize hAk2 : szB (B.take (k + 1)) = A' at *
        have HA2 := Lib.hid hAk2
        clear hAk2
        by_cases hat : A = off
        · have t2 : ((A : Int) == (off : Int)) = true := by simp; omega
          have HF2 := Lib.hid (HF.out.hit hkB (HAK.out.trans hat) (by rw [hBk]; omega))
          clear hat
          go_wp2_with (refine wpl_append rfl (.tmp 42) (.tmp 44) _ _ rfl w.heap.size 9 (.string ByteArray.empty) 1 16 Try.underlying69 info_str rfl (by decide) _ _ _ rfl hown4 _ _ _ rfl C5.out C1.out C2.out C3.out ?_; intro v' w5 hown' hgrow)
          go_roundw
          case rel =>
            refine ⟨k + 1, hlt, by go_num, by rw [HA2.out], ?_, by rw [hBs.out]; exact hown', ?_, HF2⟩
            · intro j t hj hjk
              rcases Nat.lt_or_ge j k with g | g
              · exact hok j t hj g
              · obtain rfl : j = k := by omega
                rw [hLk] at hj
                injection hj with hj
                rw [← hj]; exact he0
            · exact hown4.thenMod (HM3.out.alloc _) hgrow (Nat.le_refl _)
          case measure => simp [intOf]; omega
        · have t2 : ((A : Int) == (off : Int)) = false := by simp; omega
          have HF2 := Lib.hid (HF.out.miss hkB (by rw [HAK.out]; exact hat))
          clear hat
          go_wp2_with (refine wpl_append rfl (.tmp 42) (.tmp 44) _ _ rfl w.heap.size 9 (.string ByteArray.empty) 1 16 Try.underlying69 info_str rfl (by decide) _ _ _ rfl hown4 _ _ _ rfl C5.out C1.out C2.out C3.out ?_; intro v' w5 hown' hgrow)
          go_roundw
          case rel =>
            refine ⟨k + 1, hlt, by go_num, by rw [HA2.out], ?_, by rw [hBs.out]; exact hown', ?_, HF2⟩
            · intro j t hj hjk
              rcases Nat.lt_or_ge j k with g | g
              · exact hok j t hj g
              · obtain rfl : j = k := by omega
                rw [hLk] at hj
                injection hj with hj
                rw [← hj]; exact he0
            · exact hown4.thenMod (HM3.out.alloc _) hgrow (Nat.le_refl _)
          case measure => simp [intOf]; omega
    · obtain rfl : k = L.length := by omega
      have t1 : decide ((L.length : Int) < (L.length : Int)) = false := by simp
      have hall : ∀ s ∈ L, (encS s).2 = 0 := fun s hs => by
        obtain ⟨j, hj, rfl⟩ := List.mem_iff_getElem.1 hs
        exact hok j _ (List.getElem?_eq_getElem hj) hj
      have HW := Lib.hid (winS_ok (off := off) (count := count) hall)
      rw [hB] at HW
      have htk : B.take L.length = B := by rw [← hBl]; exact List.take_length
      have htk2 := dropTo_end off B
      rw [hBl, htk] at htk2
      rw [htk] at hown ⊢
      have hdsz : szB B ≤ 60 * 65537 := by have := szB_enc L L.length hlen; rw [hB, htk] at this; exact this
      have HFo := HF.out
      unfold FromAt at HFo
      rw [htk, htk2] at HFo
      clear hok hall HF htk htk2
      generalize hA : szB B = A at *
      have HA := Lib.hid hA
      clear hA
      rcases HFo with ⟨rfl, hd⟩ | ⟨j, hj, rfl, hd, hlt2⟩
      · by_cases hat : A = off
        · rw [if_pos hat] at hd
          rw [hd] at HW
          have t2 : ((A : Int) != (off : Int)) = false := by simp; omega
          clear hd hat
          go_wp2
          go_ret2
          exact ⟨by rw [HW.out]; rfl, HM.out⟩
        · rw [if_neg hat] at hd
          rw [hd] at HW
          have t2 : ((A : Int) != (off : Int)) = true := by simp; omega
          clear hd hat
          go_wp2
          go_ret2
          exact ⟨by rw [HW.out]; rfl, HM.out⟩
      · have hjB : j < B.length := by omega
        rw [hd, List.drop_eq_getElem_cons hjB] at HW
        simp only at HW
        rw [← List.drop_eq_getElem_cons hjB] at HW
        obtain ⟨g, cap2, rfl, hg1, hg2, hn2, _, _, hcl⟩ : ∃ g cap, u8 = .slice (some ⟨g, 0, none⟩) L.length cap ∧ w.heap.size ≤ g ∧ g < wr.heap.size ∧ L.length ≤ cap ∧ True ∧ True ∧ (∀ q u, (B.map Value.string)[q]? = some u → wr.cell? ⟨g, q, none⟩ = some u) := by
          rcases hown.2 with ⟨_, h0⟩ | ⟨g, cap, h1, h2, h3, h4, _, _, h5⟩
          · omega
          · exact ⟨g, cap, h1, h2, h3, h4, trivial, trivial, h5⟩
        have cj : wr.cell? ⟨g, j, none⟩ = some (.string B[j]) := hcl j _ (strs_get hjB)
        have t2 : decide ((j : Int) < 0) = false := by simp
        have i1 : (0 : Int) ≤ (j : Int) := by omega
        have i2 : (j : Int) < (L.length : Int) := by omega
        have i3 : (L.length : Int) ≤ (cap2 : Int) := by omega
        have hcv : IntKind.i64.wrap (count : Int) = count := by rw [IntKind.wrap_i64]; omega
        by_cases hbig : count < B[j].size
        · rw [if_pos hbig] at HW
          have t3 : decide ((count : Int) < (B[j].size : Int)) = true := by simp; omega
          go_wp2
          go_ret2
          exact ⟨by rw [HW.out]; rfl, HM.out⟩
        · rw [if_neg hbig] at HW
          have t3 : decide ((count : Int) < (B[j].size : Int)) = false := by simp; omega
          obtain ⟨W4, hW4⟩ : ∃ W4, wr.alloc (.cells #[.pointer none, .slice none 0 0] 53) = W4 := ⟨_, rfl⟩
          have hb4 : Bld W4 wr.heap.size [] := by subst hW4; exact Bld.fresh _
          have hm4 : Mod (fun _ => False) wr W4 := by subst hW4; exact (Mod.refl _ _).alloc _
          obtain ⟨ob, hob⟩ : ∃ ob, wr.heap.size = ob := ⟨_, rfl⟩
          rw [hob] at hb4 hg2
          have hobw : w.heap.size ≤ ob := by have := HM.out.size; omega
          have HM4 := Lib.hid (HM.out.trans hm4)
          have hcl4 : ∀ q u, (B.map Value.string)[q]? = some u → W4.cell? ⟨g, q, none⟩ = some u := fun q u hq => (World.cell?_of_block (a := ⟨g, q, none⟩) (hm4.block g (by omega) (fun x => x))).trans (hcl q u hq)
          clear hown hcl hm4
          have s1 : IntKind.i64.wrap ((L.length : Int) - (j : Int)) = ((L.length - j : Nat) : Int) := by rw [IntKind.wrap_i64]; omega
          go_wp2
          go_loopw [17, 71] (fun _ i wr => ∃ (k : Nat) (acc : List UInt8), k ≤ L.length - j ∧ i = .int .i64 k ∧ Hid (Bld wr ob acc) ∧ Hid (Below ob W4 wr) ∧ Hid (fillW count (B.drop j) ByteArray.empty = fillW count ((B.drop j).drop k) (bs acc)) ∧ acc.length ≤ k * 65537) (fun _ i _ => L.length - j - (intOf i).toNat)
          case atStart => exact ⟨0, [], by omega, rfl, hb4, Below.refl _ _, rfl, by simp⟩
          case round =>
            obtain ⟨k, acc, hk2, rfl, HB, HMo, HFl, hac⟩ := hrel
            by_cases hlk : k < L.length - j
            · have hjk : j + k < B.length := by omega
              have hdl : k < (B.drop j).length := by rw [List.length_drop]; omega
              have hdk : (B.drop j)[k] = B[j + k] := List.getElem_drop ..
              have cjk : wr.cell? ⟨g, j + k, none⟩ = some (.string B[j + k]) := (HMo.out.cell (p := ⟨g, j + k, none⟩) hg2).trans (hcl4 _ _ (strs_get hjk))
              have hbs : B[j + k].size ≤ 65537 := hB0 _ (List.getElem_mem _)
              have t4 : decide ((k : Int) < ((L.length - j : Nat) : Int)) = true := by simp; omega
              have i4 : (0 : Int) ≤ (k : Int) := by omega
              have i5 : (k : Int) < ((L.length - j : Nat) : Int) := by omega
              have hstop := fillW_stop count (B.drop j) k hdl (bs acc)
              have hgo := fillW_go count (B.drop j) k hdl (bs acc)
              rw [hdk, bs_size] at hstop hgo
              have hwr : IntKind.i64.wrap ((acc.length : Int) + (B[j + k].size : Int)) = ((acc.length + B[j + k].size : Nat) : Int) := by
                have : acc.length ≤ 60 * 65537 := Nat.le_trans hac (Nat.mul_le_mul (by omega) (Nat.le_refl _))
                rw [IntKind.wrap_i64]; omega
              generalize B[j + k] = bb at *
              by_cases hst : count < acc.length + bb.size
              · have t5 : decide ((count : Int) < ((acc.length + bb.size : Nat) : Int)) = true := by simp; omega
                have HV := Lib.hid (HFl.out.trans (hstop hst))
                go_wp2_with fail
                refine (blen_any ob _ _ HB.out).mono ?_
                rintro e w6 ⟨rfl, rfl⟩
                go_wp2_with fail
                refine (string_any ob _ _ HB.out).mono ?_
                rintro e w8 ⟨rfl, hM8⟩
                have HM8 := Lib.hid (HMo.out.trans hM8)
                clear hM8
                go_wp2
                go_ret2
                exact ⟨by rw [HW.out, HV.out]; rfl, HM4.out.thenBelow HM8.out hobw⟩
              · have t5 : decide ((count : Int) < ((acc.length + bb.size : Nat) : Int)) = false := by simp; omega
                have HV := Lib.hid (HFl.out.trans (hgo hst))
                go_wp2_with fail
                refine (blen_any ob _ _ HB.out).mono ?_
                rintro e w6 ⟨rfl, rfl⟩
                go_wp2_with fail
                refine (write_any ob _ _ _ HB.out (by omega)).mono ?_
                rintro e w7 ⟨rfl, hB7, hM7⟩
                have HB7 := Lib.hid hB7
                have HM7 := Lib.hid (HMo.out.trans hM7)
                clear hB7 hM7
                go_wp2
                go_roundw
                case rel => exact ⟨k + 1, _, by omega, by go_num, HB7, HM7, by show _ = _; rw [HV.out, bs_cat, bs_of], by rw [List.length_append]; have h1 : bb.data.toList.length = bb.size := Array.length_toList; omega⟩
                case measure => simp [intOf]; omega
            · obtain rfl : k = L.length - j := by omega
              have t4 : decide (((L.length - j : Nat) : Int) < ((L.length - j : Nat) : Int)) = false := by simp
              have hdl : (B.drop j).length = L.length - j := by rw [List.length_drop, hBl]
              have HV : Hid (fillW count (B.drop j) ByteArray.empty = bs acc) := HFl.out.trans (by rw [← hdl]; exact fillW_end count (B.drop j) (bs acc))
              go_wp2_with fail
              refine (string_any ob _ _ HB.out).mono ?_
              rintro e w8 ⟨rfl, hM8⟩
              have HM8 := Lib.hid (HMo.out.trans hM8)
              clear hM8
              go_wp2
              go_ret2
              exact ⟨by rw [HW.out, HV.out]; rfl, HM4.out.thenBelow HM8.out hobw⟩
end Go.Proofs.Ytjhhknmdnkkknaa
