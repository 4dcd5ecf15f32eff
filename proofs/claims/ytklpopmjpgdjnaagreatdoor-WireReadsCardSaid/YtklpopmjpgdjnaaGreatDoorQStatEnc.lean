/- Package stat's Encode. -/
import Derived.Test.YtklpopmjpgdjnaaGreatDoorQGd
import Derived.Test.YtklpopmjpgdjnaaGreatDoorQStatREnc
set_option linter.unusedVariables false
set_option linter.unusedSimpArgs false
namespace Go.Proofs.YtklpopmjpgdjnaaGreatDoor
open Go.RowKit


theorem Mod.thenBelow {S : Nat → Prop} {a c d : World} {B : Nat} (h : Mod S a c) (k : Below B c d) (hB : a.heap.size ≤ B) : Mod S a d :=
  ⟨k.os.trans h.os, k.tape.trans h.tape, k.output.trans h.output, Nat.le_trans h.size k.size, fun i hi hs => (k.block i (Nat.lt_of_lt_of_le hi hB)).trans (h.block i hi hs)⟩
theorem text_long (s : ByteArray) (w : World) (hs : s.size ≤ 262144) (hl : 65535 < s.size) :
    Calls Tryz.prog 115 #[.string s] w fun e w' => e = .returned (.tuple #[.string ByteArray.empty, .int .i64 4]) ∧ Mod (fun _ => False) w w' := by
  refine (text_w s w (by unfold maxLen; omega)).mono ?_
  rintro e w' ⟨h, m⟩
  rw [show wText s = (ByteArray.empty, 4) from if_pos hl] at h
  exact ⟨h, m⟩
theorem text_short (s : ByteArray) (w : World) (hl : ¬ 65535 < s.size) :
    Calls Tryz.prog 115 #[.string s] w fun e w' => e = .returned (.tuple #[.string (bs (txt s)), .int .i64 0]) ∧ Mod (fun _ => False) w w' := by
  refine (text_w s w (by unfold maxLen; omega)).mono ?_
  rintro e w' ⟨h, m⟩
  rw [show wText s = (bs (txt s), 0) from if_neg hl] at h
  exact ⟨h, m⟩

set_option maxRecDepth 100000 in
set_option maxHeartbeats 4000000 in
theorem enc_any (s : St) (w : World) (hk : s.Ok) (hn : s.n.size ≤ 262144) (hu : s.u.size ≤ 262144) (hg : s.g.size ≤ 262144) (hm_ : s.m.size ≤ 262144) :
    Calls Tryz.prog 126 #[s.v] w fun e w' => e = .returned (.tuple #[.string (encS s).1, .int .i64 (encS s).2]) ∧ Mod (fun _ => False) w w' := by
  obtain ⟨W, hW⟩ : ∃ W, (w.alloc (.cells s.cells.toArray 31)).alloc (.cells #[.pointer none, .slice none 0 0] 70) = W := ⟨_, rfl⟩
  have hb : W.heap[w.heap.size]? = some (.cells s.cells.toArray 31 (0, 0)) := by subst hW; exact alloc_keep (new_at _ _)
  have hB : Bld W (w.heap.size + 1) [] := by
    subst hW
    have := Bld.fresh (w.alloc (.cells s.cells.toArray 31))
    rwa [World.size_alloc] at this
  have hm : Mod (fun _ => False) w W := by subst hW; exact ((Mod.refl _ w).alloc _).alloc _
  unfold St.cells at hb hW
  unfold St.v St.cells
  have hSkN : ∀ (U V : World), ((U).cell? ⟨w.heap.size, 0, none⟩ = some (.int .u16 s.ty) ∧ (U).cell? ⟨w.heap.size, 1, none⟩ = some (.int .u32 s.dev) ∧ (U).cell? ⟨w.heap.size, 2, none⟩ = some (.int .u8 s.qt) ∧ (U).cell? ⟨w.heap.size, 3, none⟩ = some (.int .u32 s.qv) ∧ (U).cell? ⟨w.heap.size, 4, none⟩ = some (.int .u64 s.qp) ∧ (U).cell? ⟨w.heap.size, 5, none⟩ = some (.int .u32 s.mo) ∧ (U).cell? ⟨w.heap.size, 6, none⟩ = some (.int .u32 s.at_) ∧ (U).cell? ⟨w.heap.size, 7, none⟩ = some (.int .u32 s.mt) ∧ (U).cell? ⟨w.heap.size, 8, none⟩ = some (.int .u64 s.len)) → Mod (fun _ => False) U V → ((V).cell? ⟨w.heap.size, 0, none⟩ = some (.int .u16 s.ty) ∧ (V).cell? ⟨w.heap.size, 1, none⟩ = some (.int .u32 s.dev) ∧ (V).cell? ⟨w.heap.size, 2, none⟩ = some (.int .u8 s.qt) ∧ (V).cell? ⟨w.heap.size, 3, none⟩ = some (.int .u32 s.qv) ∧ (V).cell? ⟨w.heap.size, 4, none⟩ = some (.int .u64 s.qp) ∧ (V).cell? ⟨w.heap.size, 5, none⟩ = some (.int .u32 s.mo) ∧ (V).cell? ⟨w.heap.size, 6, none⟩ = some (.int .u32 s.at_) ∧ (V).cell? ⟨w.heap.size, 7, none⟩ = some (.int .u32 s.mt) ∧ (V).cell? ⟨w.heap.size, 8, none⟩ = some (.int .u64 s.len)) := by
    rintro U V ⟨h0, h1, h2, h3, h4, h5, h6, h7, h8⟩ hm
    exact ⟨keepc hm h0, keepc hm h1, keepc hm h2, keepc hm h3, keepc hm h4, keepc hm h5, keepc hm h6, keepc hm h7, keepc hm h8⟩
  have hSkT : ∀ (U V : World), ((U).cell? ⟨w.heap.size, 9, none⟩ = some (.string s.n) ∧ (U).cell? ⟨w.heap.size, 10, none⟩ = some (.string s.u) ∧ (U).cell? ⟨w.heap.size, 11, none⟩ = some (.string s.g) ∧ (U).cell? ⟨w.heap.size, 12, none⟩ = some (.string s.m)) → Mod (fun _ => False) U V → ((V).cell? ⟨w.heap.size, 9, none⟩ = some (.string s.n) ∧ (V).cell? ⟨w.heap.size, 10, none⟩ = some (.string s.u) ∧ (V).cell? ⟨w.heap.size, 11, none⟩ = some (.string s.g) ∧ (V).cell? ⟨w.heap.size, 12, none⟩ = some (.string s.m)) := by
    rintro U V ⟨h9, h10, h11, h12⟩ hm
    exact ⟨keepc hm h9, keepc hm h10, keepc hm h11, keepc hm h12⟩
  have hC : ((W).cell? ⟨w.heap.size, 0, none⟩ = some (.int .u16 s.ty) ∧ (W).cell? ⟨w.heap.size, 1, none⟩ = some (.int .u32 s.dev) ∧ (W).cell? ⟨w.heap.size, 2, none⟩ = some (.int .u8 s.qt) ∧ (W).cell? ⟨w.heap.size, 3, none⟩ = some (.int .u32 s.qv) ∧ (W).cell? ⟨w.heap.size, 4, none⟩ = some (.int .u64 s.qp) ∧ (W).cell? ⟨w.heap.size, 5, none⟩ = some (.int .u32 s.mo) ∧ (W).cell? ⟨w.heap.size, 6, none⟩ = some (.int .u32 s.at_) ∧ (W).cell? ⟨w.heap.size, 7, none⟩ = some (.int .u32 s.mt) ∧ (W).cell? ⟨w.heap.size, 8, none⟩ = some (.int .u64 s.len) ∧ (W).cell? ⟨w.heap.size, 9, none⟩ = some (.string s.n) ∧ (W).cell? ⟨w.heap.size, 10, none⟩ = some (.string s.u) ∧ (W).cell? ⟨w.heap.size, 11, none⟩ = some (.string s.g) ∧ (W).cell? ⟨w.heap.size, 12, none⟩ = some (.string s.m)) := ⟨(cell_of (w := W) hb 0).trans rfl, (cell_of (w := W) hb 1).trans rfl, (cell_of (w := W) hb 2).trans rfl, (cell_of (w := W) hb 3).trans rfl, (cell_of (w := W) hb 4).trans rfl, (cell_of (w := W) hb 5).trans rfl, (cell_of (w := W) hb 6).trans rfl, (cell_of (w := W) hb 7).trans rfl, (cell_of (w := W) hb 8).trans rfl, (cell_of (w := W) hb 9).trans rfl, (cell_of (w := W) hb 10).trans rfl, (cell_of (w := W) hb 11).trans rfl, (cell_of (w := W) hb 12).trans rfl⟩
  obtain ⟨d0, d1, d2, d3, d4, d5, d6, d7, d8, d9, d10, d11, d12⟩ := hC
  have hS0 : ((W.drew).cell? ⟨w.heap.size, 0, none⟩ = some (.int .u16 s.ty) ∧ (W.drew).cell? ⟨w.heap.size, 1, none⟩ = some (.int .u32 s.dev) ∧ (W.drew).cell? ⟨w.heap.size, 2, none⟩ = some (.int .u8 s.qt) ∧ (W.drew).cell? ⟨w.heap.size, 3, none⟩ = some (.int .u32 s.qv) ∧ (W.drew).cell? ⟨w.heap.size, 4, none⟩ = some (.int .u64 s.qp) ∧ (W.drew).cell? ⟨w.heap.size, 5, none⟩ = some (.int .u32 s.mo) ∧ (W.drew).cell? ⟨w.heap.size, 6, none⟩ = some (.int .u32 s.at_) ∧ (W.drew).cell? ⟨w.heap.size, 7, none⟩ = some (.int .u32 s.mt) ∧ (W.drew).cell? ⟨w.heap.size, 8, none⟩ = some (.int .u64 s.len)) := ⟨d0, d1, d2, d3, d4, d5, d6, d7, d8⟩
  have HT : Hid (((W.drew).cell? ⟨w.heap.size, 9, none⟩ = some (.string s.n) ∧ (W.drew).cell? ⟨w.heap.size, 10, none⟩ = some (.string s.u) ∧ (W.drew).cell? ⟨w.heap.size, 11, none⟩ = some (.string s.g) ∧ (W.drew).cell? ⟨w.heap.size, 12, none⟩ = some (.string s.m))) := ⟨d9, d10, d11, d12⟩
  have Mc : Hid (Mod (fun _ => False) w W.drew) := hm.drew
  have HB : Hid (Bld W.drew (w.heap.size + 1) []) := Bld.mod ((Mod.refl (fun _ => False) W).drew) hB
  have k1 := hk.ty
  have k2 := hk.dev
  have k3 := hk.qt
  have k4 := hk.qv
  have k5 := hk.qp
  have k6 := hk.mo
  have k7 := hk.at_
  have k8 := hk.mt
  have k9 := hk.len
  go_enter Tryz.func126, Tryz.ntmps126
  go_wp2
  clear hb hm hW d0 d1 d2 d3 d4 d5 d6 d7 d8 d9 d10 d11 d12
  refine wp_onlyN ?_
  go_region_held_law (fun w' => ((w').cell? ⟨w.heap.size, 0, none⟩ = some (.int .u16 s.ty) ∧ (w').cell? ⟨w.heap.size, 1, none⟩ = some (.int .u32 s.dev) ∧ (w').cell? ⟨w.heap.size, 2, none⟩ = some (.int .u8 s.qt) ∧ (w').cell? ⟨w.heap.size, 3, none⟩ = some (.int .u32 s.qv) ∧ (w').cell? ⟨w.heap.size, 4, none⟩ = some (.int .u64 s.qp) ∧ (w').cell? ⟨w.heap.size, 5, none⟩ = some (.int .u32 s.mo) ∧ (w').cell? ⟨w.heap.size, 6, none⟩ = some (.int .u32 s.at_) ∧ (w').cell? ⟨w.heap.size, 7, none⟩ = some (.int .u32 s.mt) ∧ (w').cell? ⟨w.heap.size, 8, none⟩ = some (.int .u64 s.len))) (first | assumption | exact hSkN _ _ (by assumption) m4) (first
    | (go_at_call 43; refine (wU16_x s.ty _ (by omega)).mono ?_; rintro e w4 ⟨rfl, m4⟩; have HT := Lib.hid (hSkT _ _ HT.out m4); have HB := Lib.hid (Bld.mod m4 HB.out); have Mc := Lib.hid (Mc.out.trans m4))
    | (go_at_call 41; refine (wU32_x _ _ (by omega)).mono ?_; rintro e w4 ⟨rfl, m4⟩; have HT := Lib.hid (hSkT _ _ HT.out m4); have HB := Lib.hid (Bld.mod m4 HB.out); have Mc := Lib.hid (Mc.out.trans m4))
    | (go_at_call 120; refine (wU64_x s.len _ (by omega)).mono ?_; rintro e w4 ⟨rfl, m4⟩; have HT := Lib.hid (hSkT _ _ HT.out m4); have HB := Lib.hid (Bld.mod m4 HB.out); have Mc := Lib.hid (Mc.out.trans m4))
    | (go_at_call 140; refine (qid_any _ _ _ _ k3 k4 k5).mono ?_; rintro e w4 ⟨rfl, m4⟩; have HT := Lib.hid (hSkT _ _ HT.out m4); have HB := Lib.hid (Bld.mod m4 HB.out); have Mc := Lib.hid (Mc.out.trans m4)))
  refine onlyN_out ?_
  clear hSkN hS0 m4
  obtain ⟨b, hbb⟩ : ∃ b, w.heap.size + 1 = b := ⟨_, rfl⟩
  rw [hbb] at HB ⊢
  have HBB := Lib.hid hbb
  clear hbb hB
  obtain ⟨P, hP⟩ : ∃ P : List (List UInt8), P = [leBytes 2 s.ty, leBytes 4 s.dev, qidL s.qt s.qv s.qp, leBytes 4 s.mo, leBytes 4 s.at_, leBytes 4 s.mt, leBytes 8 s.len] := ⟨_, rfl⟩
  have HPl : Hid (P = [leBytes 2 s.ty, leBytes 4 s.dev, qidL s.qt s.qv s.qp, leBytes 4 s.mo, leBytes 4 s.at_, leBytes 4 s.mt, leBytes 8 s.len]) := hP
  have HPn : Hid (P.flatten = s.nums) := by show _ = _; rw [hP]; simp [St.nums, List.append_assoc]
  clear hP
  go_wp2
  go_loopw [6, 33] (fun _ i wr => ∃ k : Nat, k ≤ 7 ∧ i = .int .i64 k ∧ Hid (Bld wr b (P.take k).flatten) ∧ Hid (Below b w4 wr)) (fun _ i _ => 7 - (intOf i).toNat)
  case atStart => exact ⟨0, by omega, rfl, HB, Below.refl _ _⟩
  case round =>
    obtain ⟨k, hk7, rfl, HBk, HMk⟩ := hrel
    by_cases hlt : k < 7
    · obtain ⟨k', hk'⟩ : ∃ k', k' = k + 1 := ⟨_, rfl⟩
      rcases (show k = 0 ∨ k = 1 ∨ k = 2 ∨ k = 3 ∨ k = 4 ∨ k = 5 ∨ k = 6 from by omega) with rfl | rfl | rfl | rfl | rfl | rfl | rfl
      all_goals
        have hi := fun w => idx7 (bs (leBytes 2 s.ty)) (bs (leBytes 4 s.dev)) (bs (qidL s.qt s.qv s.qp)) (bs (leBytes 4 s.mo)) (bs (leBytes 4 s.at_)) (bs (leBytes 4 s.mt)) (bs (leBytes 8 s.len)) _ hlt w
        simp at hi
        go_wp2_with fail
        refine (write_any b _ _ _ HBk.out (by rw [HPl.out]; simp [leBytes_length, qidL, bs_size])).mono ?_
        rintro e w6 ⟨rfl, hB6, hM6⟩
        have HB6 := Lib.hid hB6
        have HM6 := Lib.hid (HMk.out.trans hM6)
        clear hB6 hM6
        go_wp2
        go_roundw
        case rel =>
          refine ⟨k', by omega, by subst hk'; go_num, ?_, HM6⟩
          subst hk'
          have h := HB6.out
          rw [HPl.out] at h ⊢
          refine Lib.hid ?_
          simp [bs] at h ⊢
          exact h
        case measure => simp [intOf]
    · obtain rfl : k = 7 := by omega
      rw [show ((7 : Nat) : Int) = (7 : Int) from rfl]
      have HBx : Hid (Bld wr b s.nums) := by have h := HBk.out; rw [show P.take 7 = P from by rw [HPl.out]; rfl, HPn.out] at h; exact h
      have HTx : ((wr).cell? ⟨w.heap.size, 9, none⟩ = some (.string s.n) ∧ (wr).cell? ⟨w.heap.size, 10, none⟩ = some (.string s.u) ∧ (wr).cell? ⟨w.heap.size, 11, none⟩ = some (.string s.g) ∧ (wr).cell? ⟨w.heap.size, 12, none⟩ = some (.string s.m)) := by
        obtain ⟨h9, h10, h11, h12⟩ := HT.out
        have hlt : w.heap.size < b := by have := HBB.out; omega
        exact ⟨(HMk.out.cell (p := ⟨w.heap.size, 9, none⟩) hlt).trans h9, (HMk.out.cell (p := ⟨w.heap.size, 10, none⟩) hlt).trans h10, (HMk.out.cell (p := ⟨w.heap.size, 11, none⟩) hlt).trans h11, (HMk.out.cell (p := ⟨w.heap.size, 12, none⟩) hlt).trans h12⟩
      have HMw : Hid (Below b w4 wr) := HMk
      obtain ⟨d9, d10, d11, d12⟩ := HTx
      clear HT HBk HMk
      have HQn : Hid (s.body = s.nums ++ txt s.n ++ txt s.u ++ txt s.g ++ txt s.m) := rfl
      have HEl : Hid (∀ h : 65535 < s.tot, encS s = (ByteArray.empty, 4)) := fun h => if_pos h
      have HEs : Hid (∀ h : ¬ 65535 < s.tot, encS s = (bs (leBytes 2 s.tot ++ s.body), 0)) := fun h => if_neg h
      have hbl := s.body_length
      have hnl := s.nums_length
      have HT0 : Hid (s.tot = 47 + s.n.size + s.u.size + s.g.size + s.m.size) := rfl
      generalize s.nums = A at *
      generalize s.body = B at *
      generalize s.tot = tot at *
      generalize s.n = xn at *
      generalize s.u = xu at *
      generalize s.g = xg at *
      generalize s.m = xm at *
      go_wp2
      go_loopw [2, 3, 8, 9, 10, 48] (fun _ _ _ _ _ i wr => ∃ k : Nat, k ≤ 4 ∧ i = .int .i64 k ∧ Hid (Bld wr b (A ++ ([txt xn, txt xu, txt xg, txt xm].take k).flatten)) ∧ Hid (Below b w4 wr)) (fun _ _ _ _ _ i _ => 4 - (intOf i).toNat)
      case atStart => exact ⟨0, by omega, rfl, by simpa using HBx, HMw⟩
      case round =>
        obtain ⟨k, hk4, rfl, HBk, HMk⟩ := hrel
        by_cases hlt : k < 4
        · obtain ⟨k', hk'⟩ : ∃ k', k' = k + 1 := ⟨_, rfl⟩
          rcases (show k = 0 ∨ k = 1 ∨ k = 2 ∨ k = 3 from by omega) with rfl | rfl | rfl | rfl
          · have hi := fun w => idx4 xn xu xg xm _ hlt w
            simp at hi
            by_cases hl : 65535 < (xn).size
            · go_wp2_with fail
              refine (text_long xn _ hn hl).mono ?_
              rintro e w6 ⟨rfl, m6⟩
              have HM6 := Lib.hid (HMk.out.trans (m6.below.mono (Nat.le_of_lt HBk.out.lt)))
              clear m6
              go_wp2
              go_ret2
              exact ⟨by rw [HEl.out (by have := HT0.out; omega)]; rfl, Mc.out.thenBelow HM6.out (by have := HBB.out; omega)⟩
            · go_wp2_with fail
              refine (text_short xn _ hl).mono ?_
              rintro e w6 ⟨rfl, m6⟩
              have HB6 := Lib.hid (Bld.mod m6 HBk.out)
              have HM6 := Lib.hid (HMk.out.trans (m6.below.mono (Nat.le_of_lt HBk.out.lt)))
              clear m6
              go_wp2_with fail
              refine (write_any b _ _ _ HB6.out (by simp [hnl, txt_length, bs_size]; omega)).mono ?_
              rintro e w7 ⟨rfl, hB7, hM7⟩
              have HB7 := Lib.hid hB7
              have HM7 := Lib.hid (HM6.out.trans hM7)
              clear hB7 hM7
              go_wp2
              go_roundw
              case rel =>
                refine ⟨k', by omega, by subst hk'; go_num, ?_, HM7⟩
                subst hk'
                have h := HB7.out
                refine Lib.hid ?_
                simp [bs] at h ⊢
                exact h
              case measure => simp [intOf]
          · have hi := fun w => idx4 xn xu xg xm _ hlt w
            simp at hi
            by_cases hl : 65535 < (xu).size
            · go_wp2_with fail
              refine (text_long xu _ hu hl).mono ?_
              rintro e w6 ⟨rfl, m6⟩
              have HM6 := Lib.hid (HMk.out.trans (m6.below.mono (Nat.le_of_lt HBk.out.lt)))
              clear m6
              go_wp2
              go_ret2
              exact ⟨by rw [HEl.out (by have := HT0.out; omega)]; rfl, Mc.out.thenBelow HM6.out (by have := HBB.out; omega)⟩
            · go_wp2_with fail
              refine (text_short xu _ hl).mono ?_
              rintro e w6 ⟨rfl, m6⟩
              have HB6 := Lib.hid (Bld.mod m6 HBk.out)
              have HM6 := Lib.hid (HMk.out.trans (m6.below.mono (Nat.le_of_lt HBk.out.lt)))
              clear m6
              go_wp2_with fail
              refine (write_any b _ _ _ HB6.out (by simp [hnl, txt_length, bs_size]; omega)).mono ?_
              rintro e w7 ⟨rfl, hB7, hM7⟩
              have HB7 := Lib.hid hB7
              have HM7 := Lib.hid (HM6.out.trans hM7)
              clear hB7 hM7
              go_wp2
              go_roundw
              case rel =>
                refine ⟨k', by omega, by subst hk'; go_num, ?_, HM7⟩
                subst hk'
                have h := HB7.out
                refine Lib.hid ?_
                simp [bs] at h ⊢
                exact h
              case measure => simp [intOf]
          · have hi := fun w => idx4 xn xu xg xm _ hlt w
            simp at hi
            by_cases hl : 65535 < (xg).size
            · go_wp2_with fail
              refine (text_long xg _ hg hl).mono ?_
              rintro e w6 ⟨rfl, m6⟩
              have HM6 := Lib.hid (HMk.out.trans (m6.below.mono (Nat.le_of_lt HBk.out.lt)))
              clear m6
              go_wp2
              go_ret2
              exact ⟨by rw [HEl.out (by have := HT0.out; omega)]; rfl, Mc.out.thenBelow HM6.out (by have := HBB.out; omega)⟩
            · go_wp2_with fail
              refine (text_short xg _ hl).mono ?_
              rintro e w6 ⟨rfl, m6⟩
              have HB6 := Lib.hid (Bld.mod m6 HBk.out)
              have HM6 := Lib.hid (HMk.out.trans (m6.below.mono (Nat.le_of_lt HBk.out.lt)))
              clear m6
              go_wp2_with fail
              refine (write_any b _ _ _ HB6.out (by simp [hnl, txt_length, bs_size]; omega)).mono ?_
              rintro e w7 ⟨rfl, hB7, hM7⟩
              have HB7 := Lib.hid hB7
              have HM7 := Lib.hid (HM6.out.trans hM7)
              clear hB7 hM7
              go_wp2
              go_roundw
              case rel =>
                refine ⟨k', by omega, by subst hk'; go_num, ?_, HM7⟩
                subst hk'
                have h := HB7.out
                refine Lib.hid ?_
                simp [bs] at h ⊢
                exact h
              case measure => simp [intOf]
          · have hi := fun w => idx4 xn xu xg xm _ hlt w
            simp at hi
            by_cases hl : 65535 < (xm).size
            · go_wp2_with fail
              refine (text_long xm _ hm_ hl).mono ?_
              rintro e w6 ⟨rfl, m6⟩
              have HM6 := Lib.hid (HMk.out.trans (m6.below.mono (Nat.le_of_lt HBk.out.lt)))
              clear m6
              go_wp2
              go_ret2
              exact ⟨by rw [HEl.out (by have := HT0.out; omega)]; rfl, Mc.out.thenBelow HM6.out (by have := HBB.out; omega)⟩
            · go_wp2_with fail
              refine (text_short xm _ hl).mono ?_
              rintro e w6 ⟨rfl, m6⟩
              have HB6 := Lib.hid (Bld.mod m6 HBk.out)
              have HM6 := Lib.hid (HMk.out.trans (m6.below.mono (Nat.le_of_lt HBk.out.lt)))
              clear m6
              go_wp2_with fail
              refine (write_any b _ _ _ HB6.out (by simp [hnl, txt_length, bs_size]; omega)).mono ?_
              rintro e w7 ⟨rfl, hB7, hM7⟩
              have HB7 := Lib.hid hB7
              have HM7 := Lib.hid (HM6.out.trans hM7)
              clear hB7 hM7
              go_wp2
              go_roundw
              case rel =>
                refine ⟨k', by omega, by subst hk'; go_num, ?_, HM7⟩
                subst hk'
                have h := HB7.out
                refine Lib.hid ?_
                simp [bs] at h ⊢
                exact h
              case measure => simp [intOf]
        · obtain rfl : k = 4 := by omega
          rw [show ((4 : Nat) : Int) = (4 : Int) from rfl]
          have HBy : Hid (Bld wr b B) := by have h := HBk.out; rw [show A ++ (List.take 4 [txt xn, txt xu, txt xg, txt xm]).flatten = B from by rw [HQn.out]; simp] at h; exact h
          clear HBk HBx HB
          by_cases hl : 65535 < tot
          · have t1 : decide (65535 < (tot : Int)) = true := by simp; omega
            have hl2 : B.length = tot := hbl
            go_wp2_with fail
            refine (blen_any b _ _ HBy.out).mono ?_
            rintro e w6 ⟨rfl, rfl⟩
            rw [hl2]
            go_wp2
            go_ret2
            exact ⟨by rw [HEl.out hl]; rfl, Mc.out.thenBelow HMk.out (by have := HBB.out; omega)⟩
          · have t1 : decide (65535 < (tot : Int)) = false := by simp; omega
            have hl2 : B.length = tot := hbl
            have hwr : IntKind.u16.wrap (tot : Int) = tot := by rw [IntKind.wrap_u16]; omega
            go_wp2_with fail
            refine (blen_any b _ _ HBy.out).mono ?_
            rintro e w6 ⟨rfl, rfl⟩
            rw [hl2]
            go_wp2_with fail
            refine (blen_any b _ _ HBy.out).mono ?_
            rintro e w6 ⟨rfl, rfl⟩
            rw [hl2]
            go_wp2_with fail
            refine (wU16_x tot _ (by omega)).mono ?_
            rintro e w6 ⟨rfl, m6⟩
            have HB6 := Lib.hid (Bld.mod m6 HBy.out)
            have HM6 := Lib.hid (HMk.out.trans (m6.below.mono (Nat.le_of_lt HBy.out.lt)))
            clear m6
            go_wp2_with fail
            refine (string_any b _ _ HB6.out).mono ?_
            rintro e w7 ⟨rfl, hM7⟩
            have HM7 := Lib.hid (HM6.out.trans hM7)
            clear hM7
            have hs1 : (bs (leBytes 2 tot)).size = 2 := by rw [bs_size, leBytes_length]
            have hs2 : (bs B).size = tot := by rw [bs_size, hbl]
            rw [bs_cat] at HEs
            generalize bs (leBytes 2 tot) = t1s at *
            generalize bs B = t2s at *
            go_wp2
            go_ret2
            exact ⟨by rw [HEs.out hl]; rfl, Mc.out.thenBelow HM7.out (by have := HBB.out; omega)⟩
end Go.Proofs.YtklpopmjpgdjnaaGreatDoor
