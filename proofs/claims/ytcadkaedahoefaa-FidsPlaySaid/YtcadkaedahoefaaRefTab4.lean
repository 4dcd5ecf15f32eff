/- The document's Table: Add. -/
import Derived.Test.YtcadkaedahoefaaRefTab3
import Derived.Deep.DeepCutAuto
namespace Go.Proofs.Ytcadkaedahoefaa
open Go.RowKit

/-- where a number goes in -/
def Spot (l : HL) (x j : Nat) : Prop := (∀ p ∈ l.take j, p.1 < x) ∧ ∀ p ∈ l.drop j, x ≤ p.1
theorem Spot.ins {l : HL} {x j : Nat} (h : Spot l x j) (q : Fd) : insH l x q = l.take j ++ (x, q) :: l.drop j := by
  have h1 : l.takeWhile (fun p => decide (p.1 < x)) = l.take j ∧ l.dropWhile (fun p => decide (p.1 < x)) = l.drop j := by
    have e : l = l.take j ++ l.drop j := (List.take_append_drop j l).symm
    have hA : ∀ a ∈ l.take j, decide (a.1 < x) = true := fun a ha => decide_eq_true (h.1 a ha)
    have hd := h.2
    generalize l.take j = A at e hA
    generalize l.drop j = B at e hd
    subst e
    rw [List.takeWhile_append_of_pos hA, List.dropWhile_append_of_pos hA]
    cases B with
    | nil => exact ⟨by simp, rfl⟩
    | cons p B =>
      have hp : decide (p.1 < x) = false := by have := hd p (List.mem_cons_self ..); simp; omega
      exact ⟨by rw [List.takeWhile_cons, hp]; simp, by rw [List.dropWhile_cons, hp]; rfl⟩
  unfold insH
  rw [h1.1, h1.2]
set_option maxHeartbeats 4000000 in
set_option maxRecDepth 100000 in
theorem radd_any (w : World) (F : Nat → Prop) (b x : Nat) (q : Fd) (l : HL) (most : Int) (h : DocAt w F b l most) (hr : Rising l) (hL : l.length ≤ 1000) :
    Calls Try.prog 19 #[.pointer (some ⟨b, 0, none⟩), .int .u32 x, q.v] w fun e w' => e = .returned (.int .i64 (addS l most x q).2) ∧ ∃ F', DocAt w' F' b (addS l most x q).1 most ∧ Mod F w w' ∧ Grows w F F' := by
  obtain ⟨W1, hW1⟩ : ∃ W1, w.alloc (.cells #[.int .u64 q.path, .string q.who, .bool q.opn, .int .u8 q.mode, .int .u64 q.next] 59) = W1 := ⟨_, rfl⟩
  have hB : W1.heap[w.heap.size]? = some (.cells #[.int .u64 q.path, .string q.who, .bool q.opn, .int .u8 q.mode, .int .u64 q.next] 59 (0, 0)) := by subst hW1; exact new_at _ _
  have m1 : Mod (fun _ => False) w W1 := by subst hW1; exact (Mod.refl _ _).alloc _
  obtain ⟨v, h⟩ := h
  have HLt := Lib.hid h.lt
  have h1 := h.mod m1 (fun _ x => x.elim)
  obtain ⟨va, vc, rfl, hvc, hvx⟩ := h1.held.form
  have c0 : W1.cell? ⟨b, 0, none⟩ = some (.slice va l.length vc) := (cell_of h1.obj 0).trans rfl
  have c1 : W1.cell? ⟨b, 1, none⟩ = some (.int .i64 most) := (cell_of h1.obj 1).trans rfl
  have hA := dat_any W1 b x _ l _ h1.held (by omega) c0
  have H1 := Lib.hid h1
  have M1 : Hid (Mod F w W1) := m1.mono fun _ _ x => x.elim
  have hsz : w.heap.size < W1.heap.size := lt_of hB
  have b0 : (W1).cell? ⟨w.heap.size, 0, none⟩ = some (.int .u64 q.path) := (cell_of hB 0).trans rfl
  have b1 : (W1).cell? ⟨w.heap.size, 1, none⟩ = some (.string q.who) := (cell_of hB 1).trans rfl
  have b2 : (W1).cell? ⟨w.heap.size, 2, none⟩ = some (.bool q.opn) := (cell_of hB 2).trans rfl
  have b3 : (W1).cell? ⟨w.heap.size, 3, none⟩ = some (.int .u8 q.mode) := (cell_of hB 3).trans rfl
  have b4 : (W1).cell? ⟨w.heap.size, 4, none⟩ = some (.int .u64 q.next) := (cell_of hB 4).trans rfl
  have HB := Lib.hid hB
  clear h h1 m1 hB
  by_cases hx : x = 4294967295
  · have HV : Hid (addS l most x q = (l, 2)) := if_pos hx
    have t1 : ((x : Int) == 4294967295) = true := by simp [hx]
    clear hx hA hvx
    unfold Fd.v
    go_enter Try.func19, Try.ntmps19
    go_wp2
    go_ret
    exact ⟨by rw [HV.out]; rfl, F, by rw [HV.out]; exact ⟨_, H1.out⟩, M1.out, Grows.refl _ _⟩
  have t1 : ((x : Int) == 4294967295) = false := by simp; omega
  cases hl : lookH l x with
  | some q0 =>
    have HV : Hid (addS l most x q = (l, 184)) := by show _ = _; unfold addS; rw [if_neg hx, hl]; rfl
    have HL := Lib.hid hl
    clear hl hx
    unfold Fd.v
    go_enter Try.func19, Try.ntmps19
    go_wp2_with fail
    refine hA.mono ?_
    rintro e w2 ⟨i, rfl, ha, rfl⟩
    obtain ⟨j, rfl, hj, hx⟩ := ha.yes hr HL.out
    clear hA hvx hx ha
    go_wp2
    go_ret
    exact ⟨by rw [HV.out]; rfl, F, by rw [HV.out]; exact ⟨_, H1.out⟩, M1.out, Grows.refl _ _⟩
  | none =>
    have HL := Lib.hid hl
    by_cases h3 : most ≤ l.length
    · have HV : Hid (addS l most x q = (l, 6)) := by show _ = _; unfold addS; rw [if_neg hx, hl, if_neg (by simp), if_pos h3]
      have t3 : decide (most ≤ (l.length : Int)) = true := by simp [h3]
      clear hl hx hvx h3
      unfold Fd.v
      go_enter Try.func19, Try.ntmps19
      go_wp2_with fail
      refine hA.mono ?_
      rintro e w2 ⟨i, rfl, ha, rfl⟩
      obtain rfl := ha.no HL.out
      clear hA ha
      go_wp2
      go_quiet (fail)
      go_wp2
      go_ret
      exact ⟨by rw [HV.out]; rfl, F, by rw [HV.out]; exact ⟨_, H1.out.mod ((Mod.refl (fun _ => False) _).drewN _) (fun _ x => x.elim)⟩, M1.out.drewN _, Grows.refl _ _⟩
    · have HV : Hid (addS l most x q = (insH l x q, 0)) := by show _ = _; unfold addS; rw [if_neg hx, hl, if_neg (by simp), if_neg h3]
      have t3 : decide (most ≤ (l.length : Int)) = false := by simp; omega
      clear hl hx h3
      unfold Fd.v
      go_enter Try.func19, Try.ntmps19
      go_wp2_with fail
      refine hA.mono ?_
      rintro e w2 ⟨i, rfl, ha, rfl⟩
      obtain rfl := ha.no HL.out
      clear hA ha
      go_wp2
      go_quiet (fail)
      go_wp2
      go_loopw [7] (fun i wr => ∃ j : Nat, j ≤ l.length ∧ i = .int .i64 j ∧ Hid (∀ p ∈ l.take j, p.1 < x) ∧ Hid (DocP wr F b (.slice va l.length vc) l most) ∧ Hid (wr.heap[w.heap.size]? = some (.cells #[.int .u64 q.path, .string q.who, .bool q.opn, .int .u8 q.mode, .int .u64 q.next] 59 (0, 0))) ∧ Hid (Mod F w wr)) (fun i _ => l.length - (intOf i).toNat)
      case atStart => exact ⟨0, Nat.zero_le _, rfl, fun p hp => (by simp at hp), H1.out.mod ((Mod.refl (fun _ => False) _).drewN _) (fun _ x => x.elim), HB.out, M1.out.drewN _⟩
      case round =>
        clear H1 HB M1 c0 c1 b0 b1 b2 b3 b4 hvx t1 t3
        obtain ⟨j, hj, rfl, HS, HD, HB, HM⟩ := hrel
        have c0 : wr.cell? ⟨b, 0, none⟩ = some (.slice va l.length vc) := (cell_of HD.out.obj 0).trans rfl
        by_cases hjl : j < l.length
        · have t5 : decide ((j : Int) < (l.length : Int)) = true := by simp; omega
          have t6 : decide (j < l.length) = true := by simp; omega
          obtain ⟨g, rfl⟩ : ∃ g, va = some ⟨g, 0, none⟩ := by
            rcases HD.out.ol.2 with ⟨_, e0⟩ | ⟨g, cap, e, _⟩
            · omega
            · injection e with e1
              exact ⟨g, e1⟩
          obtain ⟨a', c', e, _, hx2⟩ := HD.out.held.form
          obtain ⟨g', off', ha, _, hg, hc⟩ := hx2 j l[j] (List.getElem?_eq_getElem hjl)
          injection e with e1 e2 e3
          rw [← e1] at ha
          injection ha with ha
          injection ha with ha1 ha2
          subst ha1
          subst ha2
          have d0 := hc 0 _ rfl
          rw [Nat.add_zero, Nat.zero_add] at d0
          have hn : l[j].1 ≠ x := lookH_none.1 HL.out _ (List.getElem_mem hjl)
          have hstep : l.take (j + 1) = l.take j ++ [l[j]] := List.take_succ_eq_append_getElem hjl
          have HDr : Hid (x ≤ l[j].1 → Spot l x j) := fun hge => by
            refine ⟨HS.out, fun p hp => ?_⟩
            have hp2 : Rising (l.drop j) := hr.sublist (List.drop_sublist _ _)
            rw [List.drop_eq_getElem_cons hjl] at hp hp2
            rcases List.mem_cons.1 hp with rfl | hp
            · exact hge
            · have := (List.pairwise_cons.1 hp2).1 p hp
              omega
          have j1 : (0 : Int) ≤ (j : Int) := by omega
          have j2 : (j : Int) < (l.length : Int) := by omega
          have j3 : (l.length : Int) ≤ (vc : Int) := by omega
          generalize l[j] = y at d0 hn hstep HDr
          clear hx2 hc e1 e2 e3
          by_cases hxy : y.1 < x
          · have u1 : decide ((y.1 : Int) < (x : Int)) = true := by simp; omega
            have u2 : decide (y.1 < x) = true := by simp; omega
            have HS2 : Hid (∀ z ∈ l.take (j + 1), z.1 < x) := by
              rw [hstep]
              intro z hz
              rcases List.mem_append.1 hz with h | h
              · exact HS.out z h
              · rw [List.mem_singleton.1 h]; exact hxy
            clear hstep hxy HDr HS hn
            go_wp2
            go_roundw
            case rel => exact ⟨j + 1, hjl, by go_num, HS2, HD, HB, HM⟩
            case measure => simp [intOf]; omega
          · have u1 : decide ((y.1 : Int) < (x : Int)) = false := by simp; omega
            have u2 : decide (y.1 < x) = false := by simp; omega
            have HSp : Hid (Spot l x j) := HDr.out (by omega)
            clear hstep hxy HDr HS hn
            have HIns := Lib.hid (HSp.out.ins q)
            have t1' := HD.out.held.take (k := j) hj
            have A2 : Hid (Src Try.prog 6 53 (.slice (some ⟨g, 0, none⟩) j vc) j (flatR heldC (l.take j)) wr) := src_recs Try.underlying53 (by decide) held_len held_one t1' (by rw [List.length_take]; omega)
            have C1 : Hid ((0 + j) * 48 ≤ 140737488355328) := by show _ ≤ _; omega
            have C2 : Hid (0 + j ≤ 9223372036854775807) := by show _ ≤ _; omega
            have j1 : (0 : Int) ≤ (j : Int) := by omega
            have i1 : (j : Int) ≤ (l.length : Int) := by omega
            have i2 : (j : Int) ≤ (vc : Int) := by omega
            have i3 : (l.length : Int) ≤ (vc : Int) := by omega
            have hB' := HB.out
            have b0 : (wr).cell? ⟨w.heap.size, 0, none⟩ = some (.int .u64 q.path) := (cell_of hB' 0).trans rfl
            have b1 : (wr).cell? ⟨w.heap.size, 1, none⟩ = some (.string q.who) := (cell_of hB' 1).trans rfl
            have b2 : (wr).cell? ⟨w.heap.size, 2, none⟩ = some (.bool q.opn) := (cell_of hB' 2).trans rfl
            have b3 : (wr).cell? ⟨w.heap.size, 3, none⟩ = some (.int .u8 q.mode) := (cell_of hB' 3).trans rfl
            have b4 : (wr).cell? ⟨w.heap.size, 4, none⟩ = some (.int .u64 q.next) := (cell_of hB' 4).trans rfl
            clear hB' t1'
            go_upto_region 11 with (fail)
            go_upto_region 12 with (refine wpl_append rfl (.tmp 46) (.tmp 52) _ _ rfl wr.heap.size 69 (.agg #[.int .u32 0, .int .u64 0, .string { data := #[] }, .bool false, .int .u8 0, .int .u64 0]) 6 48 Try.underlying53 info_held rfl (by decide) (.slice none 0 0) 0 [] rfl (OwnA.nil wr wr.heap.size 6) _ _ _ rfl A2.out C1.out C2.out (Nat.le_refl _) ?_; intro v' w5 hown' hgrow; have hm3 : Mod (fun _ => False) wr w5 := hgrow.mono (fun k _ x => by simp [Value.ownBlock] at x); obtain ⟨a2, q1, rfl, _⟩ := hown'.form)
            rw [List.nil_append, Nat.zero_add] at hown'
            have c5 := keepR hm3 c0
            have x0 := keepR hm3 b0
            have x1 := keepR hm3 b1
            have x2 := keepR hm3 b2
            have x3 := keepR hm3 b3
            have x4 := keepR hm3 b4
            have HM5 := Lib.hid hm3
            have A1 : Hid (OwnA (w5.alloc (.cells #[.int .u32 x, .int .u64 q.path, .string q.who, .bool q.opn, .int .u8 q.mode, .int .u64 q.next] 69)) wr.heap.size 6 (.slice a2 j q1) j (flatR heldC (l.take j))) := hown'.mod ((Mod.refl (fun _ => False) _).alloc _) (fun _ _ x => x)
            have A3 : Hid (Src Try.prog 6 53 (.slice (some ⟨w5.heap.size, 0, none⟩) 1 1) 1 (flatR heldC [(x, q)]) (w5.alloc (.cells #[.int .u32 x, .int .u64 q.path, .string q.who, .bool q.opn, .int .u8 q.mode, .int .u64 q.next] 69))) := src_held w5 (x, q)
            have C3 : Hid ((j + 1) * 48 ≤ 140737488355328) := by show _ ≤ _; omega
            have C4 : Hid (j + 1 ≤ 9223372036854775807) := by show _ ≤ _; omega
            have C5 : Hid (wr.heap.size ≤ (w5.alloc (.cells #[.int .u32 x, .int .u64 q.path, .string q.who, .bool q.opn, .int .u8 q.mode, .int .u64 q.next] 69)).heap.size) := by show _ ≤ _; rw [World.size_alloc]; have := hm3.size; omega
            clear hown' hgrow hm3 c0 b0 b1 b2 b3 b4 A2 C1 C2
            go_upto_region 13 with (refine wpl_append rfl (.tmp 54) (.tmp 58) _ _ rfl wr.heap.size 69 (.agg #[.int .u32 0, .int .u64 0, .string { data := #[] }, .bool false, .int .u8 0, .int .u64 0]) 6 48 Try.underlying53 info_held rfl (by decide) (.slice a2 j q1) j _ rfl A1.out _ 1 _ rfl A3.out C3.out C4.out C5.out ?_; intro v2 w6 hown2 hgrow2; obtain ⟨a3, q3, rfl, _⟩ := hown2.form)
            have hm6 := A1.out.thenMod (HM5.out.alloc _) hgrow2 (Nat.le_refl _)
            have c6 : w6.cell? ⟨b, 0, none⟩ = some (.slice (some ⟨g, 0, none⟩) l.length vc) := keepR hm6 ((cell_of HD.out.obj 0).trans rfl)
            have HO := Lib.hid hown2
            have HM6 := Lib.hid hm6
            clear hown2 hgrow2 hm6 A1 A3 C3 C4 C5 c5 x0 x1 x2 x3 x4 HM5
            go_cut [8] from 60 to 67 (fun v wc => Hid (OwnA wc wr.heap.size 6 v (insH l x q).length (flatR heldC (insH l x q))) ∧ Hid (Mod (fun _ => False) wr wc))
            case first =>
              have HLen : Hid (j + 1 + (l.length - j) = (insH l x q).length) := by show _ = _; rw [insH_length]; omega
              have HCat : Hid (flatR heldC (l.take j) ++ flatR heldC [(x, q)] ++ flatR heldC (l.drop j) = flatR heldC (insH l x q)) := by show _ = _; rw [HIns.out, ← flatR_append, ← flatR_append, List.append_assoc]; rfl
              have hcap : ¬ vc = j := by omega
              have A4 : Hid (Src Try.prog 6 53 (.slice (some ⟨g, j * 6, none⟩) (l.length - j) (vc - j)) (l.length - j) (flatR heldC (l.drop j)) w6) := by
                have h := (HD.out.held.drop j hj).mod HM6.out (fun _ _ _ x => x)
                rw [Nat.zero_add] at h
                exact src_recs Try.underlying53 (by decide) held_len held_one h (by rw [List.length_drop])
              have C6 : Hid ((j + 1 + (l.length - j)) * 48 ≤ 140737488355328) := by show _ ≤ _; omega
              have C7 : Hid (j + 1 + (l.length - j) ≤ 9223372036854775807) := by show _ ≤ _; omega
              go_wp2_with (refine wpl_append rfl (.tmp 60) (.tmp 66) _ _ rfl wr.heap.size 69 (.agg #[.int .u32 0, .int .u64 0, .string { data := #[] }, .bool false, .int .u8 0, .int .u64 0]) 6 48 Try.underlying53 info_held rfl (by decide) _ (j + 1) _ rfl HO.out _ _ _ rfl A4.out C6.out C7.out HM6.out.size ?_; intro v3 w7 hown3 hgrow3)
              go_meet
              case rel => exact ⟨by rw [← HLen.out, ← HCat.out]; exact hown3, HO.out.thenMod HM6.out hgrow3 (Nat.le_refl _)⟩
            case rest =>
              obtain ⟨HO7, HM7⟩ := hcut
              obtain ⟨xa, xc, hu7, _⟩ := HO7.out.form
              subst hu7
              obtain ⟨F1, t1, t2, t3⟩ := HD.out.setL HM7.out (HO7.out.mono (Nat.zero_le _)) (fun k hk => (HO7.out.lt k hk).1)
              have hobc := (HM7.out.block b (lt_of HD.out.obj) (fun x => x)).trans HD.out.obj
              have k0 : wc.cell? ⟨b, 0, none⟩ = some (.slice (some ⟨g, 0, none⟩) l.length vc) := (cell_of hobc 0).trans rfl
              have kf0 : wc.frozen? ⟨b, 0, none⟩ = false := free_of hobc 0
              have T1 := Lib.hid t1
              have MT := Lib.hid (HM.out.trans t2)
              have GT := Lib.hid (t3.trans' HM.out.size)
              clear t1 t2 t3 hobc HO7 HM7 HO HM6 c6
              go_wp2
              go_ret
              exact ⟨by rw [HV.out]; rfl, F1, by rw [HV.out]; exact ⟨_, T1.out⟩, MT.out, GT.out⟩
        · have hje : j = l.length := by omega
          have t5 : decide ((j : Int) < (l.length : Int)) = false := by simp; omega
          have t6 : decide (j < l.length) = false := by simp; omega
          have HSp : Hid (Spot l x j) := ⟨HS.out, fun p hp => by rw [hje, List.drop_length] at hp; cases hp⟩
          clear HS hje hjl
          rcases HD.out.ol.2 with ⟨e0, _⟩ | ⟨g, cap, e0, _⟩
          · injection e0 with e1 e2 e3
            subst e1
            have hl0 : l = [] := List.eq_nil_of_length_eq_zero (by omega)
            subst hl0
            obtain rfl : j = 0 := by have := hj; simp at this; omega
            subst e3
            clear e2 hj hvc hL
            have c0 : wr.cell? ⟨b, 0, none⟩ = some (.slice none 0 0) := c0
            have hB' := HB.out
            have b0 : (wr).cell? ⟨w.heap.size, 0, none⟩ = some (.int .u64 q.path) := (cell_of hB' 0).trans rfl
            have b1 : (wr).cell? ⟨w.heap.size, 1, none⟩ = some (.string q.who) := (cell_of hB' 1).trans rfl
            have b2 : (wr).cell? ⟨w.heap.size, 2, none⟩ = some (.bool q.opn) := (cell_of hB' 2).trans rfl
            have b3 : (wr).cell? ⟨w.heap.size, 3, none⟩ = some (.int .u8 q.mode) := (cell_of hB' 3).trans rfl
            have b4 : (wr).cell? ⟨w.heap.size, 4, none⟩ = some (.int .u64 q.next) := (cell_of hB' 4).trans rfl
            clear hB'
            have A1 : Hid (OwnA (wr.alloc (.cells #[.int .u32 x, .int .u64 q.path, .string q.who, .bool q.opn, .int .u8 q.mode, .int .u64 q.next] 69)) wr.heap.size 6 (.slice none 0 0) 0 []) := OwnA.nil _ _ _
            have A3 : Hid (Src Try.prog 6 53 (.slice (some ⟨wr.heap.size, 0, none⟩) 1 1) 1 (flatR heldC [(x, q)]) (wr.alloc (.cells #[.int .u32 x, .int .u64 q.path, .string q.who, .bool q.opn, .int .u8 q.mode, .int .u64 q.next] 69))) := src_held wr (x, q)
            have C3 : Hid ((0 + 1) * 48 ≤ 140737488355328) := by show _ ≤ _; omega
            have C4 : Hid (0 + 1 ≤ 9223372036854775807) := by show _ ≤ _; omega
            have C5 : Hid (wr.heap.size ≤ (wr.alloc (.cells #[.int .u32 x, .int .u64 q.path, .string q.who, .bool q.opn, .int .u8 q.mode, .int .u64 q.next] 69)).heap.size) := by show _ ≤ _; rw [World.size_alloc]; omega
            go_upto_region 12 with (fail)
            go_upto_region 13 with (refine wpl_append rfl (.tmp 54) (.tmp 58) _ _ rfl wr.heap.size 69 (.agg #[.int .u32 0, .int .u64 0, .string { data := #[] }, .bool false, .int .u8 0, .int .u64 0]) 6 48 Try.underlying53 info_held rfl (by decide) (.slice none 0 0) 0 [] rfl A1.out _ 1 _ rfl A3.out C3.out C4.out C5.out ?_; intro v2 w6 hown2 hgrow2; obtain ⟨a3, q3, rfl, _⟩ := hown2.form)
            have hm6 : Mod (fun _ => False) wr w6 := A1.out.thenMod ((Mod.refl (fun _ => False) wr).alloc _) hgrow2 (Nat.le_refl _)
            have c6 : w6.cell? ⟨b, 0, none⟩ = some (.slice none 0 0) := keepR hm6 c0
            have HO := Lib.hid hown2
            have HM6 := Lib.hid hm6
            clear hown2 hgrow2 hm6 A1 A3 C3 C4 C5 c0 b0 b1 b2 b3 b4
            go_cut [8] from 60 to 67 (fun v wc => Hid (OwnA wc wr.heap.size 6 v (insH [] x q).length (flatR heldC (insH [] x q))) ∧ Hid (Mod (fun _ => False) wr wc))
            case first =>
              have HEnd : Hid (OwnA w6 wr.heap.size 6 (.slice a3 1 q3) (insH [] x q).length (flatR heldC (insH [] x q))) := HO.out
              cases a3
              all_goals
                go_wp2
                go_meet
                case rel => exact ⟨HEnd, HM6⟩
            case rest =>
              obtain ⟨HO7, HM7⟩ := hcut
              obtain ⟨xa, xc, hu7, _⟩ := HO7.out.form
              subst hu7
              obtain ⟨F1, t1, t2, t3⟩ := HD.out.setL HM7.out (HO7.out.mono (Nat.zero_le _)) (fun k hk => (HO7.out.lt k hk).1)
              have hobc := (HM7.out.block b (lt_of HD.out.obj) (fun x => x)).trans HD.out.obj
              have k0 : wc.cell? ⟨b, 0, none⟩ = some (.slice none 0 0) := (cell_of hobc 0).trans rfl
              have kf0 : wc.frozen? ⟨b, 0, none⟩ = false := free_of hobc 0
              have T1 := Lib.hid t1
              have MT := Lib.hid (HM.out.trans t2)
              have GT := Lib.hid (t3.trans' HM.out.size)
              clear t1 t2 t3 hobc HO7 HM7 HO HM6 c6
              go_wp2
              go_ret
              exact ⟨by rw [HV.out]; rfl, F1, by rw [HV.out]; exact ⟨_, T1.out⟩, MT.out, GT.out⟩
          · injection e0 with e1 e2 e3
            subst e1
            subst e3
            clear e2
            by_cases hcap : vc = j
            · obtain ⟨n, hn⟩ : ∃ n, n = l.length := ⟨_, rfl⟩
              have hjn : j = n := by omega
              have hvn : vc = n := by omega
              have HIns := Lib.hid (HSp.out.ins q)
              rw [hjn] at HIns
              have HLn : Hid (l.length = n) := hn.symm
              have t1' := HD.out.held.take (k := n) (by omega)
              rw [hvn] at t1'
              have HDn : Hid (DocP wr F b (.slice (some ⟨g, 0, none⟩) n n) l most) := by have := HD.out; rw [hvn, ← hn] at this; exact this
              have hnL : n ≤ 1000 := by omega
              rw [hvn, ← hn] at c0
              rw [hjn, ← hn] at t5 t6
              rw [hjn]
              clear HSp hvn hn hj hvc hL hjn hcap
              have A2 : Hid (Src Try.prog 6 53 (.slice (some ⟨g, 0, none⟩) n n) n (flatR heldC (l.take n)) wr) := src_recs Try.underlying53 (by decide) held_len held_one t1' (by have := HLn.out; rw [List.length_take]; omega)
              have C1 : Hid ((0 + n) * 48 ≤ 140737488355328) := by show _ ≤ _; omega
              have C2 : Hid (0 + n ≤ 9223372036854775807) := by show _ ≤ _; omega
              have j1 : (0 : Int) ≤ (n : Int) := by omega
              have hB' := HB.out
              have b0 : (wr).cell? ⟨w.heap.size, 0, none⟩ = some (.int .u64 q.path) := (cell_of hB' 0).trans rfl
              have b1 : (wr).cell? ⟨w.heap.size, 1, none⟩ = some (.string q.who) := (cell_of hB' 1).trans rfl
              have b2 : (wr).cell? ⟨w.heap.size, 2, none⟩ = some (.bool q.opn) := (cell_of hB' 2).trans rfl
              have b3 : (wr).cell? ⟨w.heap.size, 3, none⟩ = some (.int .u8 q.mode) := (cell_of hB' 3).trans rfl
              have b4 : (wr).cell? ⟨w.heap.size, 4, none⟩ = some (.int .u64 q.next) := (cell_of hB' 4).trans rfl
              clear hB' t1'
              go_upto_region 11 with (fail)
              go_upto_region 12 with (refine wpl_append rfl (.tmp 46) (.tmp 52) _ _ rfl wr.heap.size 69 (.agg #[.int .u32 0, .int .u64 0, .string { data := #[] }, .bool false, .int .u8 0, .int .u64 0]) 6 48 Try.underlying53 info_held rfl (by decide) (.slice none 0 0) 0 [] rfl (OwnA.nil wr wr.heap.size 6) _ _ _ rfl A2.out C1.out C2.out (Nat.le_refl _) ?_; intro v' w5 hown' hgrow; have hm3 : Mod (fun _ => False) wr w5 := hgrow.mono (fun k _ x => by simp [Value.ownBlock] at x); obtain ⟨a2, q1, rfl, _⟩ := hown'.form)
              rw [List.nil_append, Nat.zero_add] at hown'
              have c5 := keepR hm3 c0
              have x0 := keepR hm3 b0
              have x1 := keepR hm3 b1
              have x2 := keepR hm3 b2
              have x3 := keepR hm3 b3
              have x4 := keepR hm3 b4
              have HM5 := Lib.hid hm3
              have A1 : Hid (OwnA (w5.alloc (.cells #[.int .u32 x, .int .u64 q.path, .string q.who, .bool q.opn, .int .u8 q.mode, .int .u64 q.next] 69)) wr.heap.size 6 (.slice a2 n q1) n (flatR heldC (l.take n))) := hown'.mod ((Mod.refl (fun _ => False) _).alloc _) (fun _ _ x => x)
              have A3 : Hid (Src Try.prog 6 53 (.slice (some ⟨w5.heap.size, 0, none⟩) 1 1) 1 (flatR heldC [(x, q)]) (w5.alloc (.cells #[.int .u32 x, .int .u64 q.path, .string q.who, .bool q.opn, .int .u8 q.mode, .int .u64 q.next] 69))) := src_held w5 (x, q)
              have C3 : Hid ((n + 1) * 48 ≤ 140737488355328) := by show _ ≤ _; omega
              have C4 : Hid (n + 1 ≤ 9223372036854775807) := by show _ ≤ _; omega
              have C5 : Hid (wr.heap.size ≤ (w5.alloc (.cells #[.int .u32 x, .int .u64 q.path, .string q.who, .bool q.opn, .int .u8 q.mode, .int .u64 q.next] 69)).heap.size) := by show _ ≤ _; rw [World.size_alloc]; have := hm3.size; omega
              clear hown' hgrow hm3 c0 b0 b1 b2 b3 b4 A2 C1 C2
              go_upto_region 13 with (refine wpl_append rfl (.tmp 54) (.tmp 58) _ _ rfl wr.heap.size 69 (.agg #[.int .u32 0, .int .u64 0, .string { data := #[] }, .bool false, .int .u8 0, .int .u64 0]) 6 48 Try.underlying53 info_held rfl (by decide) (.slice a2 n q1) n _ rfl A1.out _ 1 _ rfl A3.out C3.out C4.out C5.out ?_; intro v2 w6 hown2 hgrow2; obtain ⟨a3, q3, rfl, _⟩ := hown2.form)
              have hm6 := A1.out.thenMod (HM5.out.alloc _) hgrow2 (Nat.le_refl _)
              have c6 : w6.cell? ⟨b, 0, none⟩ = some (.slice (some ⟨g, 0, none⟩) n n) := keepR hm6 ((cell_of HDn.out.obj 0).trans rfl)
              have HO := Lib.hid hown2
              have HM6 := Lib.hid hm6
              clear hown2 hgrow2 hm6 A1 A3 C3 C4 C5 c5 x0 x1 x2 x3 x4 HM5
              go_cut [8] from 60 to 67 (fun v wc => Hid (OwnA wc wr.heap.size 6 v (insH l x q).length (flatR heldC (insH l x q))) ∧ Hid (Mod (fun _ => False) wr wc))
              case first =>
                have HEnd : Hid ((insH l x q).length = n + 1 ∧ flatR heldC (l.take n) ++ flatR heldC [(x, q)] = flatR heldC (insH l x q)) := by
                  refine ⟨by rw [insH_length, HLn.out], ?_⟩
                  rw [HIns.out, ← HLn.out, List.take_length, List.drop_length, flatR_append]
                have A4 : Hid (Src Try.prog 6 53 (.slice (some ⟨g, 0, none⟩) 0 0) 0 (flatR heldC ([] : List (Nat × Fd))) w6) := Src.ofSlice w6 Try.underlying53 ⟨g, 0, none⟩ 0 0 [] rfl (fun j u hj => by simp at hj) (fun u hu => by cases hu)
                have C6 : Hid ((n + 1 + 0) * 48 ≤ 140737488355328) := by show _ ≤ _; omega
                have C7 : Hid (n + 1 + 0 ≤ 9223372036854775807) := by show _ ≤ _; omega
                go_wp2_with (refine wpl_append rfl (.tmp 60) (.tmp 66) _ _ rfl wr.heap.size 69 (.agg #[.int .u32 0, .int .u64 0, .string { data := #[] }, .bool false, .int .u8 0, .int .u64 0]) 6 48 Try.underlying53 info_held rfl (by decide) _ (n + 1) _ rfl HO.out _ _ _ rfl A4.out C6.out C7.out HM6.out.size ?_; intro v3 w7 hown3 hgrow3)
                go_meet
                case rel => exact ⟨by rw [HEnd.out.1, ← HEnd.out.2]; rw [Nat.add_zero, show flatR heldC ([] : List (Nat × Fd)) = [] from rfl, List.append_nil] at hown3; exact hown3, HO.out.thenMod HM6.out hgrow3 (Nat.le_refl _)⟩
              case rest =>
                obtain ⟨HO7, HM7⟩ := hcut
                obtain ⟨xa, xc, hu7, _⟩ := HO7.out.form
                subst hu7
                obtain ⟨F1, t1, t2, t3⟩ := HDn.out.setL HM7.out (HO7.out.mono (Nat.zero_le _)) (fun k hk => (HO7.out.lt k hk).1)
                have hobc := (HM7.out.block b (lt_of HDn.out.obj) (fun x => x)).trans HDn.out.obj
                have k0 : wc.cell? ⟨b, 0, none⟩ = some (.slice (some ⟨g, 0, none⟩) n n) := (cell_of hobc 0).trans rfl
                have kf0 : wc.frozen? ⟨b, 0, none⟩ = false := free_of hobc 0
                have T1 := Lib.hid t1
                have MT := Lib.hid (HM.out.trans t2)
                have GT := Lib.hid (t3.trans' HM.out.size)
                clear t1 t2 t3 hobc HO7 HM7 HO HM6 c6
                go_wp2
                go_ret
                exact ⟨by rw [HV.out]; rfl, F1, by rw [HV.out]; exact ⟨_, T1.out⟩, MT.out, GT.out⟩
            · have HIns := Lib.hid (HSp.out.ins q)
              have t1' := HD.out.held.take (k := j) hj
              have A2 : Hid (Src Try.prog 6 53 (.slice (some ⟨g, 0, none⟩) j vc) j (flatR heldC (l.take j)) wr) := src_recs Try.underlying53 (by decide) held_len held_one t1' (by rw [List.length_take]; omega)
              have C1 : Hid ((0 + j) * 48 ≤ 140737488355328) := by show _ ≤ _; omega
              have C2 : Hid (0 + j ≤ 9223372036854775807) := by show _ ≤ _; omega
              have j1 : (0 : Int) ≤ (j : Int) := by omega
              have i1 : (j : Int) ≤ (l.length : Int) := by omega
              have i2 : (j : Int) ≤ (vc : Int) := by omega
              have i3 : (l.length : Int) ≤ (vc : Int) := by omega
              have hB' := HB.out
              have b0 : (wr).cell? ⟨w.heap.size, 0, none⟩ = some (.int .u64 q.path) := (cell_of hB' 0).trans rfl
              have b1 : (wr).cell? ⟨w.heap.size, 1, none⟩ = some (.string q.who) := (cell_of hB' 1).trans rfl
              have b2 : (wr).cell? ⟨w.heap.size, 2, none⟩ = some (.bool q.opn) := (cell_of hB' 2).trans rfl
              have b3 : (wr).cell? ⟨w.heap.size, 3, none⟩ = some (.int .u8 q.mode) := (cell_of hB' 3).trans rfl
              have b4 : (wr).cell? ⟨w.heap.size, 4, none⟩ = some (.int .u64 q.next) := (cell_of hB' 4).trans rfl
              clear hB' t1'
              go_upto_region 11 with (fail)
              go_upto_region 12 with (refine wpl_append rfl (.tmp 46) (.tmp 52) _ _ rfl wr.heap.size 69 (.agg #[.int .u32 0, .int .u64 0, .string { data := #[] }, .bool false, .int .u8 0, .int .u64 0]) 6 48 Try.underlying53 info_held rfl (by decide) (.slice none 0 0) 0 [] rfl (OwnA.nil wr wr.heap.size 6) _ _ _ rfl A2.out C1.out C2.out (Nat.le_refl _) ?_; intro v' w5 hown' hgrow; have hm3 : Mod (fun _ => False) wr w5 := hgrow.mono (fun k _ x => by simp [Value.ownBlock] at x); obtain ⟨a2, q1, rfl, _⟩ := hown'.form)
              rw [List.nil_append, Nat.zero_add] at hown'
              have c5 := keepR hm3 c0
              have x0 := keepR hm3 b0
              have x1 := keepR hm3 b1
              have x2 := keepR hm3 b2
              have x3 := keepR hm3 b3
              have x4 := keepR hm3 b4
              have HM5 := Lib.hid hm3
              have A1 : Hid (OwnA (w5.alloc (.cells #[.int .u32 x, .int .u64 q.path, .string q.who, .bool q.opn, .int .u8 q.mode, .int .u64 q.next] 69)) wr.heap.size 6 (.slice a2 j q1) j (flatR heldC (l.take j))) := hown'.mod ((Mod.refl (fun _ => False) _).alloc _) (fun _ _ x => x)
              have A3 : Hid (Src Try.prog 6 53 (.slice (some ⟨w5.heap.size, 0, none⟩) 1 1) 1 (flatR heldC [(x, q)]) (w5.alloc (.cells #[.int .u32 x, .int .u64 q.path, .string q.who, .bool q.opn, .int .u8 q.mode, .int .u64 q.next] 69))) := src_held w5 (x, q)
              have C3 : Hid ((j + 1) * 48 ≤ 140737488355328) := by show _ ≤ _; omega
              have C4 : Hid (j + 1 ≤ 9223372036854775807) := by show _ ≤ _; omega
              have C5 : Hid (wr.heap.size ≤ (w5.alloc (.cells #[.int .u32 x, .int .u64 q.path, .string q.who, .bool q.opn, .int .u8 q.mode, .int .u64 q.next] 69)).heap.size) := by show _ ≤ _; rw [World.size_alloc]; have := hm3.size; omega
              clear hown' hgrow hm3 c0 b0 b1 b2 b3 b4 A2 C1 C2
              go_upto_region 13 with (refine wpl_append rfl (.tmp 54) (.tmp 58) _ _ rfl wr.heap.size 69 (.agg #[.int .u32 0, .int .u64 0, .string { data := #[] }, .bool false, .int .u8 0, .int .u64 0]) 6 48 Try.underlying53 info_held rfl (by decide) (.slice a2 j q1) j _ rfl A1.out _ 1 _ rfl A3.out C3.out C4.out C5.out ?_; intro v2 w6 hown2 hgrow2; obtain ⟨a3, q3, rfl, _⟩ := hown2.form)
              have hm6 := A1.out.thenMod (HM5.out.alloc _) hgrow2 (Nat.le_refl _)
              have c6 : w6.cell? ⟨b, 0, none⟩ = some (.slice (some ⟨g, 0, none⟩) l.length vc) := keepR hm6 ((cell_of HD.out.obj 0).trans rfl)
              have HO := Lib.hid hown2
              have HM6 := Lib.hid hm6
              clear hown2 hgrow2 hm6 A1 A3 C3 C4 C5 c5 x0 x1 x2 x3 x4 HM5
              go_cut [8] from 60 to 67 (fun v wc => Hid (OwnA wc wr.heap.size 6 v (insH l x q).length (flatR heldC (insH l x q))) ∧ Hid (Mod (fun _ => False) wr wc))
              case first =>
                have HLen : Hid (j + 1 + (l.length - j) = (insH l x q).length) := by show _ = _; rw [insH_length]; omega
                have HCat : Hid (flatR heldC (l.take j) ++ flatR heldC [(x, q)] ++ flatR heldC (l.drop j) = flatR heldC (insH l x q)) := by show _ = _; rw [HIns.out, ← flatR_append, ← flatR_append, List.append_assoc]; rfl
                have hcap : ¬ vc = j := by omega
                have A4 : Hid (Src Try.prog 6 53 (.slice (some ⟨g, j * 6, none⟩) (l.length - j) (vc - j)) (l.length - j) (flatR heldC (l.drop j)) w6) := by
                  have h := (HD.out.held.drop j hj).mod HM6.out (fun _ _ _ x => x)
                  rw [Nat.zero_add] at h
                  exact src_recs Try.underlying53 (by decide) held_len held_one h (by rw [List.length_drop])
                have C6 : Hid ((j + 1 + (l.length - j)) * 48 ≤ 140737488355328) := by show _ ≤ _; omega
                have C7 : Hid (j + 1 + (l.length - j) ≤ 9223372036854775807) := by show _ ≤ _; omega
                go_wp2_with (refine wpl_append rfl (.tmp 60) (.tmp 66) _ _ rfl wr.heap.size 69 (.agg #[.int .u32 0, .int .u64 0, .string { data := #[] }, .bool false, .int .u8 0, .int .u64 0]) 6 48 Try.underlying53 info_held rfl (by decide) _ (j + 1) _ rfl HO.out _ _ _ rfl A4.out C6.out C7.out HM6.out.size ?_; intro v3 w7 hown3 hgrow3)
                go_meet
                case rel => exact ⟨by rw [← HLen.out, ← HCat.out]; exact hown3, HO.out.thenMod HM6.out hgrow3 (Nat.le_refl _)⟩
              case rest =>
                obtain ⟨HO7, HM7⟩ := hcut
                obtain ⟨xa, xc, hu7, _⟩ := HO7.out.form
                subst hu7
                obtain ⟨F1, t1, t2, t3⟩ := HD.out.setL HM7.out (HO7.out.mono (Nat.zero_le _)) (fun k hk => (HO7.out.lt k hk).1)
                have hobc := (HM7.out.block b (lt_of HD.out.obj) (fun x => x)).trans HD.out.obj
                have k0 : wc.cell? ⟨b, 0, none⟩ = some (.slice (some ⟨g, 0, none⟩) l.length vc) := (cell_of hobc 0).trans rfl
                have kf0 : wc.frozen? ⟨b, 0, none⟩ = false := free_of hobc 0
                have T1 := Lib.hid t1
                have MT := Lib.hid (HM.out.trans t2)
                have GT := Lib.hid (t3.trans' HM.out.size)
                clear t1 t2 t3 hobc HO7 HM7 HO HM6 c6
                go_wp2
                go_ret
                exact ⟨by rw [HV.out]; rfl, F1, by rw [HV.out]; exact ⟨_, T1.out⟩, MT.out, GT.out⟩
end Go.Proofs.Ytcadkaedahoefaa
