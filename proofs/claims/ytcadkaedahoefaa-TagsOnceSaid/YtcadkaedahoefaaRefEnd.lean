/- The document's End. -/
import Derived.Test.YtcadkaedahoefaaRefTags
import Derived.Deep.DeepCutAuto
namespace Go.Proofs.Ytcadkaedahoefaa
open Go.RowKit

theorem SlAt.take {w : World} {P : Nat → Prop} {a : Option Addr} {n c k : Nat} {xs : List Value} (h : SlAt w P (.slice a n c) xs) (hk : k ≤ xs.length) : SlAt w P (.slice a k c) (xs.take k) := by
  rcases h with ⟨rfl, a', c', h⟩ | ⟨g, off, cap, h1, h2, h3, h4, h5⟩
  · injection h with e1 e2 e3
    obtain rfl : k = 0 := by simpa using hk
    exact .inl ⟨rfl, a, c, rfl⟩
  · injection h1 with e1 e2 e3
    exact .inr ⟨g, off, c, by rw [e1, List.length_take, Nat.min_eq_left hk], h2, h3, by rw [List.length_take]; omega, fun j u hj => h5 j u (by
      rw [List.getElem?_take] at hj
      split at hj
      · exact hj
      · cases hj)⟩
theorem SlAt.drop {w : World} {P : Nat → Prop} {g off n c : Nat} {xs : List Value} (k : Nat) (h : SlAt w P (.slice (some ⟨g, off, none⟩) n c) xs) (hk : k ≤ xs.length) : SlAt w P (.slice (some ⟨g, off + k, none⟩) (n - k) (c - k)) (xs.drop k) := by
  rcases h with ⟨rfl, a', c', h⟩ | ⟨g', off', cap, h1, h2, h3, h4, h5⟩
  · injection h with e1 e2 e3
    obtain rfl : k = 0 := by simpa using hk
    exact .inl ⟨rfl, some ⟨g, off + 0, none⟩, c, by rw [e2]; rfl⟩
  · injection h1 with e1 e2 e3
    injection e1 with e1
    injection e1 with e1 e4
    subst e1 e4
    exact .inr ⟨g, off + k, c - k, by rw [List.length_drop, e2], h2, h3, by rw [List.length_drop]; omega, fun j u hj => by
      rw [List.getElem?_drop] at hj
      rw [Nat.add_assoc]
      exact h5 _ u hj⟩
theorem u16s_take (L : List Nat) (k : Nat) : (u16s L).take k = u16s (L.take k) := List.map_take.symm
theorem u16s_dropk (L : List Nat) (k : Nat) : (u16s L).drop k = u16s (L.drop k) := List.map_drop.symm
theorem toldL_step {tag : Nat} {L : List (Nat × Nat)} {j : Nat} (h : j < L.length) : toldL tag (L.take (j + 1)) = toldL tag (L.take j) ++ (if toldS tag L[j] = true then [L[j].1] else []) := by
  unfold toldL
  rw [filter_step _ h, List.map_append]
  congr 1
  split <;> rfl
theorem toldL_len (tag : Nat) (L : List (Nat × Nat)) (k : Nat) : (toldL tag (L.take k)).length ≤ L.length := by
  unfold toldL
  rw [List.length_map]
  have h1 := List.length_filter_le (toldS tag) (L.take k)
  rw [List.length_take] at h1
  omega
theorem leftS_len (tag : Nat) (L : List (Nat × Nat)) (k : Nat) : (leftS tag (L.take k)).length ≤ L.length := by
  unfold leftS
  have h1 := List.length_filter_le (fun p => !goneS tag p) (L.take k)
  rw [List.length_take] at h1
  omega
set_option maxHeartbeats 2000000 in
set_option maxRecDepth 100000 in
theorem rend_any (w : World) (F : Nat → Prop) (b tag : Nat) (s : TS) (h : TagsAt 42 w F b s) (hl : s.l.length ≤ 100000) (hw : s.w.length ≤ 100000) (hn : s.l.Nodup) :
    Calls Try.prog 13 #[.pointer (some ⟨b, 0, none⟩), .int .u16 tag] w fun e w' => ∃ v, e = .returned (.tuple #[v, .int .i64 (endS s tag).2.2]) ∧ SlAt w' (w.heap.size ≤ ·) v (u16s (endS s tag).2.1) ∧ ∃ F', TagsAt 42 w' F' b (endS s tag).1 ∧ Mod F w w' ∧ Grows w F F' := by
  obtain ⟨vl, vw, h⟩ := h
  obtain ⟨va, vc, rfl, hvc⟩ := h.ol.form
  obtain ⟨wa, wk, rfl, hwc⟩ := h.ow.form
  have H := Lib.hid h
  have hobj := h.obj
  have c0 : (w).cell? ⟨b, 0, none⟩ = some (.slice va s.l.length vc) := (cell_of hobj 0).trans rfl
  have c1 : (w).cell? ⟨b, 1, none⟩ = some (.slice wa s.w.length wk) := (cell_of hobj 1).trans rfl
  have c2 : (w).cell? ⟨b, 2, none⟩ = some (.int .i64 s.most) := (cell_of hobj 2).trans rfl
  have f0 : (w).frozen? ⟨b, 0, none⟩ = false := free_of hobj 0
  have f1 : (w).frozen? ⟨b, 1, none⟩ = false := free_of hobj 1
  have hC1 := rop_any w b tag _ s.l (fun _ => True) (h.ol.slAt.imp fun _ _ => trivial) (by omega) c0
  have hSl := h.ol.slAt
  clear hobj
  cases h1 : inL s.l tag with
  | false =>
    have HV : Hid (endS s tag = (s, [], 5)) := if_pos h1
    have H2 := Lib.hid h1
    clear h1 h hSl
    go_enter Try.func13, Try.ntmps13
    go_wp2_with fail
    refine hC1.mono ?_
    rintro e w1 ⟨i, rfl, ha, rfl⟩
    obtain rfl := ha.no H2.out
    go_wp2
    go_ret2
    exact ⟨_, by rw [HV.out]; rfl, by rw [HV.out]; exact .inl ⟨rfl, _, _, rfl⟩, F, by rw [HV.out]; exact ⟨_, _, H.out⟩, Mod.refl _ _, Grows.refl _ _⟩
  | true =>
    have HV : Hid (endS s tag = (⟨dropL tag s.l, leftS tag s.w, s.most⟩, toldL tag s.w, 0)) := by show _ = _; unfold endS; rw [if_neg (by rw [h1]; simp)]
    go_enter Try.func13, Try.ntmps13
    go_wp2_with fail
    refine hC1.mono ?_
    rintro e w1 ⟨i, rfl, ha, rfl⟩
    obtain ⟨j, rfl, hj, hx, hbe⟩ := ha.yes h1
    have hds := drop_split hn hj hx hbe
    obtain ⟨g, rfl⟩ : ∃ g, va = some ⟨g, 0, none⟩ := by
      rcases h.ol.2 with ⟨_, e0⟩ | ⟨g, cap, e, _⟩
      · omega
      · injection e with e1
        exact ⟨g, e1⟩
    have t1 := hSl.take (k := j) (by rw [u16s_length]; omega)
    have t2 := hSl.drop (j + 1) (by rw [u16s_length]; omega)
    rw [u16s_take] at t1
    rw [u16s_dropk, Nat.zero_add] at t2
    have T2 := Lib.hid t2
    have HDs := Lib.hid hds
    have A2 : Hid (Src Try.prog 1 34 (.slice (some ⟨g, 0, none⟩) j vc) j (u16s (s.l.take j)) w1) := src_slAt Try.underlying34 t1 (by rw [u16s_length, List.length_take]; omega) (u16s_one _)
    have C1 : Hid ((0 + j) * 2 ≤ 140737488355328) := by show _ ≤ _; omega
    have C2 : Hid (0 + j ≤ 9223372036854775807) := by show _ ≤ _; omega
    have i1 : (j : Int) ≤ (s.l.length : Int) := by omega
    have i2 : (j : Int) ≤ (vc : Int) := by omega
    have i3 : (s.l.length : Int) ≤ (vc : Int) := by omega
    have i4 : (j : Int) + 1 ≤ (s.l.length : Int) := by omega
    have i5 : (j : Int) + 1 ≤ (vc : Int) := by omega
    clear ha h1 hx hbe hds t1 t2 h hSl hC1
    go_upto_region 6 with (refine wpl_append rfl (.tmp 17) (.tmp 23) _ _ rfl w1.heap.size 29 (.int .u16 0) 1 2 Try.underlying34 info_u16 rfl (by decide) (.slice none 0 0) 0 [] rfl (OwnA.nil w1 w1.heap.size 1) _ _ _ rfl A2.out C1.out C2.out (Nat.le_refl _) ?_; intro v' w3 hown' hgrow; have hm3 : Mod (fun _ => False) w1 w3 := hgrow.mono (fun k _ x => by simp [Value.ownBlock] at x); obtain ⟨a1, q1, rfl, _⟩ := hown'.form; have c0 : w3.cell? ⟨b, 0, none⟩ = some (.slice (some ⟨g, 0, none⟩) s.l.length vc) := keepR hm3 c0)
    rw [List.nil_append, Nat.zero_add] at hown'
    go_cut [7] from 25 to 33 (fun v wc => Hid (OwnA wc w1.heap.size 1 v (dropL tag s.l).length (u16s (dropL tag s.l))) ∧ Hid (Mod (fun _ => False) w1 wc))
    case first =>
      have hlen : j + (s.l.length - (j + 1)) = (dropL tag s.l).length := by rw [HDs.out, List.length_append, List.length_take, List.length_drop]; omega
      have hcat : u16s (s.l.take j) ++ u16s (s.l.drop (j + 1)) = u16s (dropL tag s.l) := by rw [HDs.out, u16s_append]
      have HLen := Lib.hid hlen
      have HCat := Lib.hid hcat
      have C3 : Hid ((j + (s.l.length - (j + 1))) * 2 ≤ 140737488355328) := by show _ ≤ _; omega
      have C4 : Hid (j + (s.l.length - (j + 1)) ≤ 9223372036854775807) := by show _ ≤ _; omega
      have HO := Lib.hid hown'
      have HM3 := Lib.hid hm3
      clear hlen hcat hown' hgrow hm3
      by_cases hcap : vc = j + 1
      · have HEnd : Hid (OwnA w3 w1.heap.size 1 (.slice a1 j q1) (dropL tag s.l).length (u16s (dropL tag s.l))) := by
          have hnil : s.l.drop (j + 1) = [] := List.drop_eq_nil_of_le (by omega)
          have hl := HLen.out
          have hc := HCat.out
          rw [show s.l.length - (j + 1) = 0 by omega, Nat.add_zero] at hl
          rw [hnil, show u16s [] = [] from rfl, List.append_nil] at hc
          show OwnA _ _ _ _ _ _
          rw [← hl, ← hc]
          exact HO.out
        subst hcap
        cases a1
        all_goals
          go_wp2
          go_meet
          case rel => exact ⟨HEnd, HM3⟩
      · have A3 : Hid (Src Try.prog 1 34 (.slice (some ⟨g, j + 1, none⟩) (s.l.length - (j + 1)) (vc - (j + 1))) (s.l.length - (j + 1)) (u16s (s.l.drop (j + 1))) w3) :=
          src_slAt Try.underlying34 (T2.out.mod HM3.out (fun _ _ _ x => x)) (by rw [u16s_length, List.length_drop]) (u16s_one _)
        go_wp2_with (refine wpl_append rfl (.tmp 25) (.tmp 32) _ _ rfl w1.heap.size 29 (.int .u16 0) 1 2 Try.underlying34 info_u16 rfl (by decide) _ j _ rfl HO.out _ _ _ rfl A3.out C3.out C4.out HM3.out.size ?_; intro v2 w5 hown2 hgrow2)
        go_meet
        case rel => exact ⟨by rw [← HLen.out, ← HCat.out]; exact hown2, HO.out.thenMod HM3.out hgrow2 (Nat.le_refl _)⟩
    case rest =>
      obtain ⟨HO7, HM7⟩ := hcut
      obtain ⟨xa, xc, hu7, _⟩ := HO7.out.form
      subst hu7
      have hmF : Mod (fun k => some k = (Value.slice (some ⟨g, 0, none⟩) s.l.length vc).ownBlock) w1 wc := HM7.out.mono (fun _ _ x => x.elim)
      obtain ⟨F1, t1, t2, t3⟩ := H.out.setL hmF (HO7.out.mono (Nat.zero_le _)) (fun k hk => Or.inr (HO7.out.lt k hk).1)
      have hobc := (HM7.out.block b (lt_of H.out.obj) (fun x => x)).trans H.out.obj
      have k0 : wc.cell? ⟨b, 0, none⟩ = some (.slice (some ⟨g, 0, none⟩) s.l.length vc) := (cell_of hobc 0).trans rfl
      have kf0 : wc.frozen? ⟨b, 0, none⟩ = false := free_of hobc 0
      obtain ⟨w4, hw4⟩ : ∃ w4, wc.setCell ⟨b, 0, none⟩ (.slice xa (dropL tag s.l).length xc) = w4 := ⟨_, rfl⟩
      rw [hw4] at t1 t2
      have hob4 := t1.obj
      have d1 : w4.cell? ⟨b, 1, none⟩ = some (.slice wa s.w.length wk) := (cell_of hob4 1).trans rfl
      have T1 := Lib.hid t1
      have T2' := Lib.hid t2
      have T3 := Lib.hid t3
      clear hown' hgrow hm3 HO7 hmF t1 t2 t3 hobc hob4 c0 H T2 HDs A2 C1 C2 i1 i2 i3 i4 i5
      go_wp2
      go_loopw [8, 9, 10] (fun a c i wr => ∃ k : Nat, k ≤ s.w.length ∧ i = .int .i64 k ∧ Hid (OwnA wr w4.heap.size 1 a (toldL tag (s.w.take k)).length (u16s (toldL tag (s.w.take k)))) ∧ Hid (OwnA wr w4.heap.size 2 c (leftS tag (s.w.take k)).length (wts (leftS tag (s.w.take k)))) ∧ Hid (∀ q, some q = a.ownBlock → some q ≠ c.ownBlock) ∧ Hid (Mod (fun _ => False) w4 wr)) (fun _ _ i _ => s.w.length - (intOf i).toNat)
      case atStart => exact ⟨0, by omega, rfl, OwnA.nil _ _ _, OwnA.nil _ _ _, fun q hq => by simp [Value.ownBlock] at hq, Mod.refl _ _⟩
      case round =>
        obtain ⟨k, hk, rfl, HA, HC, HAC, HM⟩ := hrel
        have e1 := keepR HM.out d1
        by_cases hlt : k < s.w.length
        · have t5 : decide ((k : Int) < (s.w.length : Int)) = true := by simp; omega
          obtain ⟨g2, rfl⟩ : ∃ g2, wa = some ⟨g2, 0, none⟩ := by
            rcases T1.out.ow.2 with ⟨_, e0⟩ | ⟨g2, cap, e, _⟩
            · have e0 : s.w.length = 0 := e0
              omega
            · injection e with e1
              exact ⟨g2, e1⟩
          have hrow := (T1.out.ow.mod HM.out (fun _ _ x => x) : OwnA wr 0 2 (.slice (some ⟨g2, 0, none⟩) s.w.length wk) s.w.length (wts s.w))
          have hcs : wr.cell? ⟨g2, k * 2, none⟩ = some (.int .u16 s.w[k].1) ∧ wr.cell? ⟨g2, k * 2 + 1, none⟩ = some (.int .u16 s.w[k].2) := by
            have hr2 : OwnA wr 0 2 (.slice (some ⟨g2, 0, none⟩) s.w.length wk) s.w.length (wts (s.w.take k) ++ wts (s.w.drop k)) := by rw [← wts_append, List.take_append_drop]; exact hrow
            have h3 := hr2.rowD
            rw [wts_length, List.length_take, Nat.min_eq_left hk] at h3
            exact wts_at h3 hlt
          obtain ⟨x0, x1⟩ := hcs
          have hst := toldL_step (tag := tag) hlt
          have hsl := left_step (tag := tag) hlt
          have hln1 := toldL_len tag s.w k
          have hln2 := leftS_len tag s.w k
          have i1 : (0 : Int) ≤ (k : Int) := by omega
          have i2 : (k : Int) < (s.w.length : Int) := by omega
          have i3 : (s.w.length : Int) ≤ (wk : Int) := by omega
          have hto : toldS tag s.w[k] = (decide (s.w[k].2 = tag) && decide (s.w[k].1 ≠ tag)) := rfl
          have hgo : goneS tag s.w[k] = (decide (s.w[k].2 = tag) || decide (s.w[k].1 = tag)) := rfl
          obtain ⟨x, hx⟩ : ∃ x, s.w[k].1 = x := ⟨_, rfl⟩
          obtain ⟨y, hy⟩ : ∃ y, s.w[k].2 = y := ⟨_, rfl⟩
          have hpe : s.w[k] = (x, y) := by rw [← hx, ← hy]
          rw [hx] at x0
          rw [hy] at x1
          rw [hpe] at hst hsl hto hgo
          simp only at hst hto hgo
          obtain ⟨W2, hW2⟩ : ∃ W2, wr.alloc (.cells #[.int .u16 x, .int .u16 y] 84) = W2 := ⟨_, rfl⟩
          have hB : W2.heap[wr.heap.size]? = some (.cells #[.int .u16 x, .int .u16 y] 84 (0, 0)) := by subst hW2; exact new_at _ _
          have m2 : Mod (fun _ => False) wr W2 := by subst hW2; exact (Mod.refl _ _).alloc _
          have b0 : W2.cell? ⟨wr.heap.size, 0, none⟩ = some (.int .u16 x) := (cell_of hB 0).trans rfl
          have b1 : W2.cell? ⟨wr.heap.size, 1, none⟩ = some (.int .u16 y) := (cell_of hB 1).trans rfl
          have M2 := Lib.hid m2
          have HA2 := Lib.hid (HA.out.mod m2 (fun _ _ x => x))
          have HC2 := Lib.hid (HC.out.mod m2 (fun _ _ x => x))
          have hsz4 := HM.out.size
          clear hB m2 hrow hx hy hpe
          by_cases h1 : x = tag
          · have u1 : ((x : Int) == (tag : Int)) = true := by simp [h1]
            rw [if_neg (by rw [hto]; simp [h1]), List.append_nil] at hst
            rw [if_pos (by rw [hgo]; simp [h1]), List.append_nil] at hsl
            rw [← hst] at HA2
            rw [← hsl] at HC2
            clear hst hsl hto hgo h1 hln1 hln2
            go_wp2
            go_roundw
            case rel => exact ⟨k + 1, hlt, by go_num, HA2, HC2, HAC, HM.out.trans M2.out⟩
            case measure => simp [intOf]; omega
          · have u1 : ((x : Int) == (tag : Int)) = false := by simp; omega
            by_cases h2 : y = tag
            · have u2 : ((y : Int) == (tag : Int)) = true := by simp [h2]
              rw [if_pos (by rw [hto]; simp [h1, h2])] at hst
              rw [if_pos (by rw [hgo]; simp [h2]), List.append_nil] at hsl
              rw [← hsl] at HC2
              have hl1 : (toldL tag (s.w.take (k + 1))).length = (toldL tag (s.w.take k)).length + 1 := by rw [hst, List.length_append]; rfl
              have hl2 : u16s (toldL tag (s.w.take (k + 1))) = u16s (toldL tag (s.w.take k)) ++ u16s [x] := by rw [hst, u16s_append]
              have HL1 := Lib.hid (And.intro hl1 hl2)
              generalize toldL tag (s.w.take k) = T at *
              have MA := Lib.hid ((Mod.refl (fun _ => False) W2).alloc (.cells #[.int .u16 x] 29))
              have A1 : Hid (OwnA (W2.alloc (.cells #[.int .u16 x] 29)) w4.heap.size 1 u8 T.length (u16s T)) := HA2.out.mod MA.out (fun _ _ x => x)
              have A2 := Lib.hid (src_u16 W2 x)
              have C1 : Hid ((T.length + 1) * 2 ≤ 140737488355328) := by show _ ≤ _; omega
              have C2 : Hid (T.length + 1 ≤ 9223372036854775807) := by show _ ≤ _; omega
              have C3 : Hid (w4.heap.size ≤ (W2.alloc (.cells #[.int .u16 x] 29)).heap.size) := by show _ ≤ _; rw [World.size_alloc]; have := M2.out.size; omega
              clear hst hsl hto hgo h1 h2 hln1 hln2 hl1 hl2
              go_wp2_with (refine wpl_appendB rfl (.tmp 62) (.tmp 65) _ _ rfl w4.heap.size 29 (.int .u16 0) 1 2 Try.underlying34 info_u16 rfl (by decide) u8 _ _ rfl A1.out _ 1 _ rfl A2.out C1.out C2.out C3.out ?_; intro v' w5 hown' hgrow hblk)
              go_roundw
              case rel =>
                refine ⟨k + 1, hlt, by go_num, ?_, ?_, ?_, A1.out.thenMod ((HM.out.trans M2.out).trans MA.out) hgrow (Nat.le_refl _)⟩
                · show OwnA _ _ _ _ _ _
                  rw [HL1.out.1, HL1.out.2]; exact hown'
                · exact (HC2.out.mod MA.out (fun _ _ x => x)).modB hgrow (fun q hq e => HAC.out q e hq)
                · intro q hq hq2
                  rcases hblk with h | h
                  · rw [h] at hq; exact HAC.out q hq hq2
                  · rw [h] at hq
                    injection hq with hq
                    have := (HC2.out.lt q hq2).2
                    rw [hq, World.size_alloc] at this
                    omega
              case measure => simp [intOf]; omega
            · have u2 : ((y : Int) == (tag : Int)) = false := by simp; omega
              rw [if_neg (by rw [hto]; simp [h2]), List.append_nil] at hst
              rw [if_neg (by rw [hgo]; simp [h1, h2])] at hsl
              rw [← hst] at HA2
              have hl1 : (leftS tag (s.w.take (k + 1))).length = (leftS tag (s.w.take k)).length + 1 := by rw [hsl, List.length_append]; rfl
              have hl2 : wts (leftS tag (s.w.take (k + 1))) = wts (leftS tag (s.w.take k)) ++ wts [(x, y)] := by rw [hsl, wts_append]
              have HL1 := Lib.hid (And.intro hl1 hl2)
              generalize leftS tag (s.w.take k) = T at *
              have MA := Lib.hid ((Mod.refl (fun _ => False) W2).alloc (.cells #[.int .u16 x, .int .u16 y] 84))
              have A1 : Hid (OwnA (W2.alloc (.cells #[.int .u16 x, .int .u16 y] 84)) w4.heap.size 2 u9 T.length (wts T)) := HC2.out.mod MA.out (fun _ _ x => x)
              have A2 := Lib.hid (src_wait (P := Try.prog) Try.underlying40 84 W2 x y)
              have C1 : Hid ((T.length + 1) * 4 ≤ 140737488355328) := by show _ ≤ _; omega
              have C2 : Hid (T.length + 1 ≤ 9223372036854775807) := by show _ ≤ _; omega
              have C3 : Hid (w4.heap.size ≤ (W2.alloc (.cells #[.int .u16 x, .int .u16 y] 84)).heap.size) := by show _ ≤ _; rw [World.size_alloc]; have := M2.out.size; omega
              clear hst hsl hto hgo h1 h2 hln1 hln2 hl1 hl2
              go_wp2_with (refine wpl_appendB rfl (.tmp 67) (.tmp 69) _ _ rfl w4.heap.size 84 (.agg #[.int .u16 0, .int .u16 0]) 2 4 Try.underlying40 info_rwait rfl (by decide) u9 _ _ rfl A1.out _ 1 _ rfl A2.out C1.out C2.out C3.out ?_; intro v' w5 hown' hgrow hblk)
              go_roundw
              case rel =>
                refine ⟨k + 1, hlt, by go_num, ?_, ?_, ?_, A1.out.thenMod ((HM.out.trans M2.out).trans MA.out) hgrow (Nat.le_refl _)⟩
                · exact (HA2.out.mod MA.out (fun _ _ x => x)).modB hgrow (fun q hq e => HAC.out q hq e)
                · show OwnA _ _ _ _ _ _
                  rw [HL1.out.1, HL1.out.2]; exact hown'
                · intro q hq hq2
                  rcases hblk with h | h
                  · rw [h] at hq2; exact HAC.out q hq hq2
                  · rw [h] at hq2
                    injection hq2 with hq2
                    have := (HA2.out.lt q hq).2
                    rw [hq2, World.size_alloc] at this
                    omega
              case measure => simp [intOf]; omega
        · obtain rfl : k = s.w.length := by omega
          have t5 : decide ((s.w.length : Int) < (s.w.length : Int)) = false := by simp
          have hA := HA.out
          have hC := HC.out
          rw [List.take_length] at hA hC
          have t4 := T1.out.mod HM.out (fun _ x => x.elim)
          have hmF : Mod (fun k => some k = (Value.slice wa s.w.length wk).ownBlock) w4 wr := HM.out.mono (fun _ _ x => x.elim)
          obtain ⟨F2, s1, s2, s3⟩ := T1.out.setW hmF (hC.mono (Nat.zero_le _)) (fun k hk => Or.inr (hC.lt k hk).1)
          obtain ⟨za, zc, rfl, _⟩ := hC.form
          obtain ⟨ya, yc, rfl, _⟩ := hA.form
          have hobr := t4.obj
          have kf1 : wr.frozen? ⟨b, 1, none⟩ = false := free_of hobr 1
          obtain ⟨w9, hw9⟩ : ∃ w9, wr.setCell ⟨b, 1, none⟩ (.slice za (leftS tag s.w).length zc) = w9 := ⟨_, rfl⟩
          rw [hw9] at s1 s2
          have hb4 := T1.out.lt b T1.out.fb
          have hSl9 : SlAt w9 (w1.heap.size ≤ ·) (.slice ya (toldL tag s.w).length yc) (u16s (toldL tag s.w)) := by
            rw [← hw9]
            have hsz := T2'.out.size
            exact (hA.mod (Mod.set1 wr b 1 _) (fun k hk e => by omega)).slAt.imp fun k hk => by omega
          have HS9 := Lib.hid hSl9
          have S1 := Lib.hid s1
          have S2 : Hid (Mod F w1 w9) := T2'.out.trans' s2 fun k hk x => (T3.out k x).resolve_right (by omega)
          have S3 : Hid (Grows w1 F F2) := T3.out.trans s3 T2'.out.size
          clear hA hC t4 hmF s1 s2 s3 hobr hSl9
          go_wp2
          go_ret2
          exact ⟨_, by rw [HV.out]; rfl, by rw [HV.out]; exact HS9.out, F2, by rw [HV.out]; exact ⟨_, _, S1.out⟩, S2.out, S3.out⟩
end Go.Proofs.Ytcadkaedahoefaa
