/- Package wire's pen, reading: lists of qids. -/
import Derived.Test.YtklpopmjpgdjnaaGreatDoorQPenRL
set_option linter.unusedVariables false
set_option linter.unusedSimpArgs false
namespace Go.Proofs.YtklpopmjpgdjnaaGreatDoor
open Go.RowKit

theorem info_qid : (Tryz.prog.info? 28).map (fun i => (i.zero, i.size, i.bytes)) = some (some (.agg #[.int .u8 0, .int .u32 0, .int .u64 0]), 3, 16) := by kernel_rfl
abbrev QZ : List Value := [.int .u8 0, .int .u32 0, .int .u64 0]
theorem qz_one : ∀ u ∈ QZ, u.oneCell' = true := by
  intro u hu
  simp only [QZ, List.mem_cons, List.not_mem_nil, or_false] at hu
  rcases hu with rfl | rfl | rfl <;> rfl
theorem qd_len (q : Qd) : q.cells.length = 3 := rfl
theorem new_cells (w : World) (cs : List Value) (e : TypeId) : ∀ j u, cs[j]? = some u → (w.alloc (.cells cs.toArray e)).cell? ((⟨w.heap.size, 0, none⟩ : Addr).add j) = some u := by
  intro j u hj
  rw [Addr.add_mid, Nat.zero_add, cell_of (new_at w _), List.getElem?_toArray]
  exact hj
theorem owns_last3 {w w' : World} {B g j cap : Nat} {e : TypeId} {xs : List Value} {z0 z1 z2 u0 u1 u2 : Value} (h : w.ownsRow B e 3 (.slice (some ⟨g, 0, none⟩) (j + 1) cap) (j + 1) (xs ++ [z0, z1, z2])) (hx : xs.length = j * 3)
    (ho : ∀ cs T, w.heap[g]? = some (.cells cs T (0, 0)) → w'.heap[g]? = some (.cells (((cs.setIfInBounds (j * 3) u0).setIfInBounds (j * 3 + 1) u1).setIfInBounds (j * 3 + 2) u2) T (0, 0))) : w'.ownsRow B e 3 (.slice (some ⟨g, 0, none⟩) (j + 1) cap) (j + 1) (xs ++ [u0, u1, u2]) := by
  refine ⟨by simp [hx]; omega, ?_⟩
  rcases h.2 with ⟨hv, _⟩ | ⟨g', cap', cur, hv, hb, hg, hn, hc, hs, ht⟩
  · cases hv
  · injection hv with e1 e2 e3
    injection e1 with e1
    injection e1 with e1
    subst e1 e3
    refine .inr ⟨g, cap, _, rfl, hb, ho _ _ hg, hn, hc, by rw [Array.size_setIfInBounds, Array.size_setIfInBounds, Array.size_setIfInBounds]; exact hs, ?_⟩
    have hL : cur.toList = (xs ++ [z0, z1, z2]) ++ cur.toList.drop ((j + 1) * 3) := by rw [← ht, List.take_append_drop]
    rw [Array.toList_setIfInBounds, Array.toList_setIfInBounds, Array.toList_setIfInBounds, hL, ← hx, List.append_assoc]
    generalize cur.toList.drop ((j + 1) * 3) = R
    rw [List.set_append_right _ _ (by omega), List.set_append_right _ _ (by omega), List.set_append_right _ _ (by omega), Nat.sub_self, Nat.add_sub_cancel_left, Nat.add_sub_cancel_left]
    show List.take _ (xs ++ (u0 :: u1 :: u2 :: R)) = _
    rw [List.take_append, List.take_of_length_le (by omega), show (j + 1) * 3 - xs.length = 3 from by omega]
    rfl
theorem rdQids_ok : ∀ (n : Nat) (r : Rd) (l : List Qd), (r.s.size ≤ maxLen ∧ r.at_ ≤ r.s.size) → (rdQids n r l).2.s.size ≤ maxLen ∧ (rdQids n r l).2.at_ ≤ (rdQids n r l).2.s.size
  | 0, _, _, h => h
  | n + 1, r, l, h => by
    unfold rdQids
    split
    · exact h
    · exact rdQids_ok n _ _ (rdQid_ok h)
/-- how things stand in the loop that reads: W the world ahead of it, U the world now -/
structure QAt (W U : World) (F : Nat → Prop) (bp br bm bn : Nat) (out : List UInt8) (lg wg : Bool) (n : Nat) (cs : Array Value) (T : TypeId) (q : Rd) (v : Value) (l : List Qd) : Prop where
  pen : PenAt U F bp 1 out br lg wg
  obj : U.heap[bm]? = some (.cells (cs.setIfInBounds 16 v) T (0, 0))
  own : U.ownsRow W.heap.size 28 3 v l.length (flatR Qd.cells l)
  rd : U.heap[br]? = some (rdO q)
  n : U.cell? ⟨bn, 0, none⟩ = some (.int .u16 n)
  ok : q.s.size ≤ maxLen ∧ q.at_ ≤ q.s.size
  m : Mod (fun k => (k = br ∨ k = bm) ∨ k = bn) W U
/-- the row has grown by one, and the message holds it -/
theorem appQ {W U w3 : World} {F : Nat → Prop} {bp br bm bn n : Nat} {out : List UInt8} {lg wg : Bool} {cs : Array Value} {T : TypeId} {q : Rd} {v v3 : Value} {l : List Qd} {w : World} (h : QAt W U F bp br bm bn out lg wg n cs T q v l)
    (ho : ((U.alloc (.cells #[.int .u8 0, .int .u32 0, .int .u64 0] 28)).alloc (.cells #[.int .u8 0, .int .u32 0, .int .u64 0] 28)).ownsRow W.heap.size 28 3 v l.length (flatR Qd.cells l))
    (hg : ((U.alloc (.cells #[.int .u8 0, .int .u32 0, .int .u64 0] 28)).alloc (.cells #[.int .u8 0, .int .u32 0, .int .u64 0] 28)).drew.grownBy w3 v.ownBlock)
    (hF : ∀ k, F k → k ≠ br ∧ k ≠ bm) (hWs : W.heap.size = bn + 1) (hlt : bm < w.heap.size) (hrl : br < w.heap.size) (hne : bm ≠ br) (hFl : ∀ k, F k → k < w.heap.size) (hp : PenAt W F bp 1 out br lg wg) (hbw : w.heap.size = bn)
    (hown : w3.ownsRow W.heap.size 28 3 v3 (l.length + 1) (flatR Qd.cells l ++ QZ)) :
    QAt W (w3.setCell ⟨bm, 16, none⟩ v3) F bp br bm bn out lg wg n cs T q v3 (l ++ [Qd.zero]) ∧ w3.heap[bm]? = some (.cells (cs.setIfInBounds 16 v) T (0, 0)) := by
  have hO : ∀ k, some k = v.ownBlock → W.heap.size ≤ k := fun k hk => (ho.lt k hk.symm).1
  have m3 : Mod (fun k => some k = v.ownBlock) U w3 := (((Mod.refl _ U).alloc _).alloc _).drew.trans (Mod.of_grown hg)
  have hob := (m3.block bm (lt_of h.obj) (fun x => by have := hO bm x; omega)).trans h.obj
  have m4 : Mod (· = bm) w3 (w3.setCell ⟨bm, 16, none⟩ v3) := Mod.set1 w3 bm 16 v3
  have hr3 := (m3.block br (lt_of h.rd) (fun x => by have := hO br x; omega)).trans h.rd
  have hbn := World.block_lt_of_cell? _ _ h.n
  refine ⟨⟨(h.pen.mod m3 (fun k hk x => by have := hO k hk; have := hFl k x; omega)).mod m4 (fun k hk x => (hF k x).2 hk), ?_, ?_, (m4.block br (lt_of hr3) (fun e => hne e.symm)).trans hr3,
    keepF m4 (fun e => by omega) (keepF m3 (fun x => by have := hO bn x; omega) h.n), h.ok, (h.m.trans' m3 fun k hk x => by have := hO k x; omega).trans' m4 fun k _ e => Or.inl (Or.inr e)⟩, hob⟩
  · have := heap_set hob 16 v3
    rw [Array.setIfInBounds_setIfInBounds] at this
    exact this
  · rw [List.length_append, flatR_append]
    exact owns_modR m4 hown fun k hk e => by have := (hown.lt k hk.symm).1; omega
/-- what stands behind the loop -/
theorem QAt.fin {W U : World} {F : Nat → Prop} {bp br bm bn n : Nat} {out : List UInt8} {lg wg : Bool} {cs : Array Value} {T : TypeId} {q : Rd} {v : Value} {l : List Qd} {w : World} (h : QAt W U F bp br bm bn out lg wg n cs T q v l) (x : Bool)
    (hF : ∀ k, F k → k ≠ br ∧ k ≠ bm) (hWs : W.heap.size = bn + 1) (hbw : w.heap.size = bn) (hFl : ∀ k, F k → k < w.heap.size) (m0 : Mod (fun _ => False) w W) :
    ∃ v', (U.setCell ⟨bp, 4, none⟩ (.bool x)).heap[bm]? = some (.cells (cs.setIfInBounds 16 v') T (0, 0)) ∧ (U.setCell ⟨bp, 4, none⟩ (.bool x)).ownsRow w.heap.size 28 3 v' l.length (flatR Qd.cells l) ∧
      (U.setCell ⟨bp, 4, none⟩ (.bool x)).heap[br]? = some (rdO q) ∧ PenAt (U.setCell ⟨bp, 4, none⟩ (.bool x)) F bp 1 out br x wg ∧ Mod (fun k => (k = br ∨ k = bm) ∨ F k) w (U.setCell ⟨bp, 4, none⟩ (.bool x)) := by
  obtain ⟨q1, q2⟩ := h.pen.setLong x
  refine ⟨v, (q2.block bm (lt_of h.obj) (fun y => (hF bm y).2 rfl)).trans h.obj, owns_base (owns_modR q2 h.own fun k hk y => by have := (h.own.lt k hk.symm).1; have := hFl k y; omega) (by omega), (q2.block br (lt_of h.rd) (fun y => (hF br y).1 rfl)).trans h.rd, q1, ?_⟩
  exact ((m0.mono fun _ _ y => y.elim).trans' h.m fun k hk y => by rcases y with y | y; exact Or.inl y; omega).trans' q2 fun k _ y => Or.inr y
set_option maxHeartbeats 4000000 in
set_option maxRecDepth 100000 in
theorem list_qids_r (bp br bm : Nat) (F : Nat → Prop) (out : List UInt8) (lg wg : Bool) (r : Rd) (cs : Array Value) (T : TypeId) (w : World) (h : PenAt w F bp 1 out br lg wg) (hF : ∀ k, F k → k ≠ br ∧ k ≠ bm) (hb : w.heap[bm]? = some (.cells cs T (0, 0))) (hc12 : cs[16]? = some (.slice none 0 0)) (hne : bm ≠ br) (hr : w.heap[br]? = some (rdO r)) (hok : r.s.size ≤ maxLen ∧ r.at_ ≤ r.s.size) :
    Calls Tryz.prog 97 #[.pointer (some ⟨bp, 0, none⟩), .pointer (some ⟨bm, 16, none⟩), .func (.func 94) #[.pointer (some ⟨bp, 0, none⟩)] #[]] w fun e w' => e = .returned (.tuple #[]) ∧ ∃ v', w'.heap[bm]? = some (.cells (cs.setIfInBounds 16 v') T (0, 0)) ∧
      w'.ownsRow w.heap.size 28 3 v' (rdQids (r.num 2).1 (r.num 2).2 []).1.length (flatR Qd.cells (rdQids (r.num 2).1 (r.num 2).2 []).1) ∧ w'.heap[br]? = some (rdO (rdQids (r.num 2).1 (r.num 2).2 []).2) ∧
      PenAt w' F bp 1 out br (lg || decide (16 < (rdQids (r.num 2).1 (r.num 2).2 []).1.length)) wg ∧ Mod (fun k => (k = br ∨ k = bm) ∨ F k) w w' := by
  obtain ⟨i0, hi, hz0, hz1, hz2⟩ := info_parts info_qid
  obtain ⟨W, hW⟩ : ∃ W, w.alloc (.cells #[.int .u16 0] 24) = W := ⟨_, rfl⟩
  obtain ⟨bn, hbn⟩ : ∃ bn, w.heap.size = bn := ⟨_, rfl⟩
  have m0 : Mod (fun _ => False) w W := by subst hW; exact (Mod.refl _ _).alloc _
  have hbW : W.heap[bn]? = some (.cells #[.int .u16 0] 24 (0, 0)) := by rw [← hbn]; subst hW; exact new_at _ _
  have x0 : W.cell? ⟨bn, 0, none⟩ = some (.int .u16 0) := (cell_of hbW 0).trans rfl
  have x1 : W.frozen? ⟨bn, 0, none⟩ = false := free_of hbW 0
  have x2 : W.setCell ⟨bn, 0, none⟩ (.int .u16 0) = W := setCell_idR hbW rfl
  have hmin : min (0 : Int) 17 = 0 := by decide
  have hlt := lt_of hb
  have hrl := lt_of hr
  have hFl := h.lt
  have hbW' := (m0.block bm hlt (fun x => x)).trans hb
  have hrW := (m0.block br hrl (fun x => x)).trans hr
  have hpW := h.mod m0 (fun _ x => x.elim)
  have c12 : w.cell? ⟨bm, 16, none⟩ = some (.slice none 0 0) := (cell_of hb 16).trans hc12
  obtain ⟨c0, c3, _, _, _, _⟩ := h.cells
  have hU := pu16_r bp br bn 0 F out lg wg r _ _ W hpW hbW (by decide) (by omega) hrW hok.1 hok.2
  have hn16 : (r.num 2).1 < 65536 := Rd.num_lt r 2
  have hok2 := Rd.num_ok 2 hok
  generalize r.num 2 = y at *
  obtain ⟨n, q0⟩ := y
  simp only at hU hn16 hok2 ⊢
  have HP := Lib.hid hpW
  have HBN := Lib.hid hbW
  have HB := Lib.hid hbW'
  have HFl := Lib.hid hFl
  have M0 := Lib.hid m0
  clear h hb hr hrW hpW hbW' hbW hok m0 hFl
  go_enter Tryz.func97, Tryz.ntmps97
  go_wp2_with fail
  refine hU.mono ?_
  rintro e w1 ⟨rfl, p1⟩
  have hWs : W.heap.size = bn + 1 := by rw [← hW, World.size_alloc, hbn]
  have hbnW : w.heap.size = bn := hbn
  have hid12 : cs.setIfInBounds 16 (.slice none 0 0) = cs := by
    obtain ⟨h1, h2⟩ := Array.getElem?_eq_some_iff.1 hc12
    rw [Array.setIfInBounds, dif_pos h1, ← h2, Array.set_getElem_self]
  have HI0 : Hid (QAt W w1 F bp br bm bn out lg wg n cs T q0 (.slice none 0 0) []) :=
    ⟨HP.out.mod p1.md (fun k hk x => by rcases hk with e | e; exact (hF k x).1 e; have := HFl.out k x; omega),
     by rw [hid12]; exact (p1.md.block bm (by omega) (fun x => by rcases x with e | e; exact hne e; omega)).trans HB.out,
     World.ownsRow_nil _ _ _ _, p1.rd, (cell_of (p1.obj _ _ HBN.out) 0).trans rfl, hok2, p1.md.mono fun k _ x => by rcases x with e | e; exact Or.inl (Or.inl e); exact Or.inr e⟩
  clear hU p1 x0 x1 x2 hW hid12
  go_wp2
  go_loopw [7] (fun i wr => ∃ (j : Nat) (v : Value) (l : List Qd) (q : Rd), j ≤ n ∧ i = .int .i64 j ∧ Hid (l.length = j) ∧ Hid (QAt W wr F bp br bm bn out lg wg n cs T q v l) ∧ Hid (rdQids n q0 [] = rdQids (n - j) q l)) (fun i _ => n - (intOf i).toNat)
  case atStart => exact ⟨0, _, _, _, Nat.zero_le _, rfl, by exact (rfl : ([] : List Qd).length = 0), HI0.out, rfl⟩
  case round =>
    clear HI0
    obtain ⟨j, v, l, q, hj, rfl, HL, HA, HG⟩ := hrel
    obtain ⟨d0, d3, d4, f4, _, _⟩ := HA.out.pen.cells
    have cn := HA.out.n
    have e12 : wr.cell? ⟨bm, 16, none⟩ = some v := (cell_of HA.out.obj 16).trans (by rw [Array.getElem?_setIfInBounds_self]; rw [if_pos (Array.getElem?_eq_some_iff.1 hc12).1])
    have f12 : wr.frozen? ⟨bm, 16, none⟩ = false := free_of HA.out.obj 16
    by_cases hjn : j < n
    · have t1 : decide ((j : Int) < (n : Int)) = true := by simp; omega
      have t2 : decide (j < n) = true := by simp; omega
      have hft := fault_any br q wr HA.out.rd
      by_cases hq : q.f = 0
      · rw [hq] at hft
        have own2 := (HA.out.own.alloc (.cells #[.int .u8 0, .int .u32 0, .int .u64 0] 28)).alloc (.cells #[.int .u8 0, .int .u32 0, .int .u64 0] 28)
        go_wp2_with (go_at_call 27; refine hft.mono ?_; rintro e wz ⟨rfl, rfl⟩)
        have C1 : l.length + 1 ≤ maxLen := by have := HL.out; unfold maxLen; omega
        have C2 : (l.length + 1) * 16 ≤ 140737488355328 := by have := HL.out; omega
        have C3 := HA.out.m.size
        have one : ∀ u ∈ (QZ : List Value), u.oneCell' = true := by exact qz_one
        have OWN : Hid (((wr.alloc (.cells #[.int .u8 0, .int .u32 0, .int .u64 0] 28)).alloc (.cells #[.int .u8 0, .int .u32 0, .int .u64 0] 28)).ownsRow W.heap.size 28 3 v l.length (flatR Qd.cells l)) := own2
        have NEW : Hid (∀ j u, (QZ : List Value)[j]? = some u → ((wr.alloc (.cells #[.int .u8 0, .int .u32 0, .int .u64 0] 28)).alloc (.cells #[.int .u8 0, .int .u32 0, .int .u64 0] 28)).cell? ((⟨wr.heap.size + 1, 0, none⟩ : Addr).add j) = some u) := by
          have := new_cells (wr.alloc (.cells #[.int .u8 0, .int .u32 0, .int .u64 0] 28)) QZ 28
          rw [World.size_alloc] at this
          exact this
        have e12a : (wr.alloc (.cells #[.int .u8 0, .int .u32 0, .int .u64 0] 28)).cell? ⟨bm, 16, none⟩ = some v := keepR ((Mod.refl _ wr).alloc _) e12
        have e12b : ((wr.alloc (.cells #[.int .u8 0, .int .u32 0, .int .u64 0] 28)).alloc (.cells #[.int .u8 0, .int .u32 0, .int .u64 0] 28)).cell? ⟨bm, 16, none⟩ = some v := keepR ((Mod.refl _ _).alloc _) e12a
        clear own2 hft d0 d3 d4 f4 cn
        go_cut [7] from 42 to 51 (fun i wc => i = .int .i64 j ∧ ∃ g cap, Hid (QAt W wc F bp br bm bn out lg wg n cs T q (.slice (some ⟨g, 0, none⟩) (l.length + 1) cap) (l ++ [Qd.zero])))
        case first =>
          refine wp_region_any (by kernel_rfl) ?_
          change wpAny _ _ _ _ _ _ _ (World.drew _)
          refine wpAny_take (i := 0) (v := ?_) rfl (by kernel_rfl) (by kernel_rfl) (by kernel_rfl) (fun _ _ _ h => h) (Or.inl ⟨by rfl, ?_⟩) ?_
          rotate_left
          · intro w; go_simp
            all_goals with_reducible rfl
          refine wpAny_take (i := 1) (v := ?_) rfl (by kernel_rfl) (by kernel_rfl) (by kernel_rfl) (fun _ _ _ h => h) (Or.inl ⟨by rfl, ?_⟩) ?_
          rotate_left
          · intro w; go_simp
            all_goals with_reducible rfl
          refine wpAny_take (i := 2) (v := ?_) rfl (by kernel_rfl) (by kernel_rfl) (by kernel_rfl) (fun _ _ _ h => h) (Or.inl ⟨by rfl, ?_⟩) ?_
          rotate_left
          · intro w; go_simp
            all_goals with_reducible rfl
          refine wpAny_ready (rs := [3, 4]) (by kernel_rfl) (by simp) ?_
          refine AllReady.cons rfl (fun K hK => ?_) ?_
          rotate_left
          refine AllReady.cons rfl (fun K hK => ?_) AllReady.nil
          · go_simp
            refine hK _ _ ?_
            clear hK K
            refine wpAny_take (i := 5) (v := ?_) rfl (by kernel_rfl) (by kernel_rfl) (by kernel_rfl) (fun _ _ _ h => h) (Or.inl ⟨by rfl, ?_⟩) ?_
            rotate_left
            · intro w; go_simp
              all_goals with_reducible rfl
            refine wpAny_ready (rs := [3, 6]) (by kernel_rfl) (by simp) ?_
            refine AllReady.cons rfl (fun K hK => ?_) ?_
            rotate_left
            refine AllReady.cons rfl (fun K hK => ?_) AllReady.nil
            · go_simp
              refine hK _ _ ?_
              clear hK K
              refine wpAny_ready (rs := [3, 7]) (by kernel_rfl) (by simp) ?_
              refine AllReady.cons rfl (fun K hK => ?_) ?_
              rotate_left
              refine AllReady.cons rfl (fun K hK => ?_) AllReady.nil
              · go_simp
                refine hK _ _ ?_
                clear hK K
                refine wpAny_ready (rs := [3]) (by kernel_rfl) (by simp) ?_
                refine AllReady.cons rfl (fun K hK => ?_) AllReady.nil
                go_simp
                refine hK _ _ ?_
                clear hK K
                refine wpAny_ready (rs := [8]) (by kernel_rfl) (by simp) ?_
                refine AllReady.cons rfl (fun K hK => ?_) AllReady.nil
                refine Eq.mpr (if_pos ?hwant) ?_
                case hwant => rfl
                refine wp_append_own _ (.tmp 45) (.tmp 49) 29 rfl W.heap.size 28 i0 (.agg #[.int .u8 0, .int .u32 0, .int .u64 0]) 3 16 Tryz.underlying29 hi hz0 hz1 hz2 rfl (by decide) v l.length (flatR Qd.cells l) rfl OWN.out ⟨_, 0, none⟩ 1 1 QZ rfl rfl NEW.out one C1 C2 (by have := OWN.out; simp; omega) ?_
                rintro v3 w3 hown3 hgrow -
                have hX := appQ HA.out OWN.out hgrow hF hWs hlt hrl hne HFl.out HP.out hbnW hown3
                obtain ⟨hR3, hob3⟩ := hX
                obtain ⟨g, cap, rfl⟩ : ∃ g cap, v3 = .slice (some ⟨g, 0, none⟩) (l.length + 1) cap := by
                  rcases hown3.2 with ⟨_, h0⟩ | ⟨g, cap, cur, hv, _⟩
                  · omega
                  · exact ⟨g, cap, hv⟩
                refine hK _ _ ?_
                clear hK K
                have y1 : w3.cell? ⟨bm, 16, none⟩ = some v := (cell_of hob3 16).trans (by rw [Array.getElem?_setIfInBounds_self]; rw [if_pos (Array.getElem?_eq_some_iff.1 hc12).1])
                have y2 : w3.frozen? ⟨bm, 16, none⟩ = false := free_of hob3 16
                have HR3 := Lib.hid hR3
                clear hR3 hob3 hown3 hgrow
                refine wpAny_take (i := 9) (v := ?_) rfl (by kernel_rfl) (by kernel_rfl) (by kernel_rfl) (fun _ _ _ h => h) (Or.inl ⟨by rfl, ?_⟩) ?_
                rotate_left
                · intro w; go_simp
                  all_goals with_reducible rfl
                refine wpAny_ready (rs := [10]) (by kernel_rfl) (by simp) ?_
                refine AllReady.cons rfl (fun K hK => ?_) AllReady.nil
                go_simp
                refine hK _ _ ?_
                clear hK K
                refine wpAny_done (by kernel_rfl) ?_ _
                go_wp2
                go_meet
                case rel => exact ⟨rfl, g, cap, HR3.out⟩
              · go_simp
                refine hK _ _ ?_
                clear hK K
                refine wpAny_ready (rs := [7]) (by kernel_rfl) (by simp) ?_
                refine AllReady.cons rfl (fun K hK => ?_) AllReady.nil
                go_simp
                refine hK _ _ ?_
                clear hK K
                refine wpAny_ready (rs := [8]) (by kernel_rfl) (by simp) ?_
                refine AllReady.cons rfl (fun K hK => ?_) AllReady.nil
                refine Eq.mpr (if_pos ?hwant) ?_
                case hwant => rfl
                refine wp_append_own _ (.tmp 45) (.tmp 49) 29 rfl W.heap.size 28 i0 (.agg #[.int .u8 0, .int .u32 0, .int .u64 0]) 3 16 Tryz.underlying29 hi hz0 hz1 hz2 rfl (by decide) v l.length (flatR Qd.cells l) rfl OWN.out ⟨_, 0, none⟩ 1 1 QZ rfl rfl NEW.out one C1 C2 (by have := OWN.out; simp; omega) ?_
                rintro v3 w3 hown3 hgrow -
                have hX := appQ HA.out OWN.out hgrow hF hWs hlt hrl hne HFl.out HP.out hbnW hown3
                obtain ⟨hR3, hob3⟩ := hX
                obtain ⟨g, cap, rfl⟩ : ∃ g cap, v3 = .slice (some ⟨g, 0, none⟩) (l.length + 1) cap := by
                  rcases hown3.2 with ⟨_, h0⟩ | ⟨g, cap, cur, hv, _⟩
                  · omega
                  · exact ⟨g, cap, hv⟩
                refine hK _ _ ?_
                clear hK K
                have y1 : w3.cell? ⟨bm, 16, none⟩ = some v := (cell_of hob3 16).trans (by rw [Array.getElem?_setIfInBounds_self]; rw [if_pos (Array.getElem?_eq_some_iff.1 hc12).1])
                have y2 : w3.frozen? ⟨bm, 16, none⟩ = false := free_of hob3 16
                have HR3 := Lib.hid hR3
                clear hR3 hob3 hown3 hgrow
                refine wpAny_take (i := 9) (v := ?_) rfl (by kernel_rfl) (by kernel_rfl) (by kernel_rfl) (fun _ _ _ h => h) (Or.inl ⟨by rfl, ?_⟩) ?_
                rotate_left
                · intro w; go_simp
                  all_goals with_reducible rfl
                refine wpAny_ready (rs := [10]) (by kernel_rfl) (by simp) ?_
                refine AllReady.cons rfl (fun K hK => ?_) AllReady.nil
                go_simp
                refine hK _ _ ?_
                clear hK K
                refine wpAny_done (by kernel_rfl) ?_ _
                go_wp2
                go_meet
                case rel => exact ⟨rfl, g, cap, HR3.out⟩
            · go_simp
              refine hK _ _ ?_
              clear hK K
              refine wpAny_ready (rs := [6]) (by kernel_rfl) (by simp) ?_
              refine AllReady.cons rfl (fun K hK => ?_) AllReady.nil
              go_simp
              refine hK _ _ ?_
              clear hK K
              refine wpAny_ready (rs := [7]) (by kernel_rfl) (by simp) ?_
              refine AllReady.cons rfl (fun K hK => ?_) AllReady.nil
              go_simp
              refine hK _ _ ?_
              clear hK K
              refine wpAny_ready (rs := [8]) (by kernel_rfl) (by simp) ?_
              refine AllReady.cons rfl (fun K hK => ?_) AllReady.nil
              refine Eq.mpr (if_pos ?hwant) ?_
              case hwant => rfl
              refine wp_append_own _ (.tmp 45) (.tmp 49) 29 rfl W.heap.size 28 i0 (.agg #[.int .u8 0, .int .u32 0, .int .u64 0]) 3 16 Tryz.underlying29 hi hz0 hz1 hz2 rfl (by decide) v l.length (flatR Qd.cells l) rfl OWN.out ⟨_, 0, none⟩ 1 1 QZ rfl rfl NEW.out one C1 C2 (by have := OWN.out; simp; omega) ?_
              rintro v3 w3 hown3 hgrow -
              have hX := appQ HA.out OWN.out hgrow hF hWs hlt hrl hne HFl.out HP.out hbnW hown3
              obtain ⟨hR3, hob3⟩ := hX
              obtain ⟨g, cap, rfl⟩ : ∃ g cap, v3 = .slice (some ⟨g, 0, none⟩) (l.length + 1) cap := by
                rcases hown3.2 with ⟨_, h0⟩ | ⟨g, cap, cur, hv, _⟩
                · omega
                · exact ⟨g, cap, hv⟩
              refine hK _ _ ?_
              clear hK K
              have y1 : w3.cell? ⟨bm, 16, none⟩ = some v := (cell_of hob3 16).trans (by rw [Array.getElem?_setIfInBounds_self]; rw [if_pos (Array.getElem?_eq_some_iff.1 hc12).1])
              have y2 : w3.frozen? ⟨bm, 16, none⟩ = false := free_of hob3 16
              have HR3 := Lib.hid hR3
              clear hR3 hob3 hown3 hgrow
              refine wpAny_take (i := 9) (v := ?_) rfl (by kernel_rfl) (by kernel_rfl) (by kernel_rfl) (fun _ _ _ h => h) (Or.inl ⟨by rfl, ?_⟩) ?_
              rotate_left
              · intro w; go_simp
                all_goals with_reducible rfl
              refine wpAny_ready (rs := [10]) (by kernel_rfl) (by simp) ?_
              refine AllReady.cons rfl (fun K hK => ?_) AllReady.nil
              go_simp
              refine hK _ _ ?_
              clear hK K
              refine wpAny_done (by kernel_rfl) ?_ _
              go_wp2
              go_meet
              case rel => exact ⟨rfl, g, cap, HR3.out⟩
          · go_simp
            refine hK _ _ ?_
            clear hK K
            refine wpAny_ready (rs := [4]) (by kernel_rfl) (by simp) ?_
            refine AllReady.cons rfl (fun K hK => ?_) AllReady.nil
            go_simp
            refine hK _ _ ?_
            clear hK K
            refine wpAny_take (i := 5) (v := ?_) rfl (by kernel_rfl) (by kernel_rfl) (by kernel_rfl) (fun _ _ _ h => h) (Or.inl ⟨by rfl, ?_⟩) ?_
            rotate_left
            · intro w; go_simp
              all_goals with_reducible rfl
            refine wpAny_ready (rs := [6]) (by kernel_rfl) (by simp) ?_
            refine AllReady.cons rfl (fun K hK => ?_) AllReady.nil
            go_simp
            refine hK _ _ ?_
            clear hK K
            refine wpAny_ready (rs := [7]) (by kernel_rfl) (by simp) ?_
            refine AllReady.cons rfl (fun K hK => ?_) AllReady.nil
            go_simp
            refine hK _ _ ?_
            clear hK K
            refine wpAny_ready (rs := [8]) (by kernel_rfl) (by simp) ?_
            refine AllReady.cons rfl (fun K hK => ?_) AllReady.nil
            refine Eq.mpr (if_pos ?hwant) ?_
            case hwant => rfl
            refine wp_append_own _ (.tmp 45) (.tmp 49) 29 rfl W.heap.size 28 i0 (.agg #[.int .u8 0, .int .u32 0, .int .u64 0]) 3 16 Tryz.underlying29 hi hz0 hz1 hz2 rfl (by decide) v l.length (flatR Qd.cells l) rfl OWN.out ⟨_, 0, none⟩ 1 1 QZ rfl rfl NEW.out one C1 C2 (by have := OWN.out; simp; omega) ?_
            rintro v3 w3 hown3 hgrow -
            have hX := appQ HA.out OWN.out hgrow hF hWs hlt hrl hne HFl.out HP.out hbnW hown3
            obtain ⟨hR3, hob3⟩ := hX
            obtain ⟨g, cap, rfl⟩ : ∃ g cap, v3 = .slice (some ⟨g, 0, none⟩) (l.length + 1) cap := by
              rcases hown3.2 with ⟨_, h0⟩ | ⟨g, cap, cur, hv, _⟩
              · omega
              · exact ⟨g, cap, hv⟩
            refine hK _ _ ?_
            clear hK K
            have y1 : w3.cell? ⟨bm, 16, none⟩ = some v := (cell_of hob3 16).trans (by rw [Array.getElem?_setIfInBounds_self]; rw [if_pos (Array.getElem?_eq_some_iff.1 hc12).1])
            have y2 : w3.frozen? ⟨bm, 16, none⟩ = false := free_of hob3 16
            have HR3 := Lib.hid hR3
            clear hR3 hob3 hown3 hgrow
            refine wpAny_take (i := 9) (v := ?_) rfl (by kernel_rfl) (by kernel_rfl) (by kernel_rfl) (fun _ _ _ h => h) (Or.inl ⟨by rfl, ?_⟩) ?_
            rotate_left
            · intro w; go_simp
              all_goals with_reducible rfl
            refine wpAny_ready (rs := [10]) (by kernel_rfl) (by simp) ?_
            refine AllReady.cons rfl (fun K hK => ?_) AllReady.nil
            go_simp
            refine hK _ _ ?_
            clear hK K
            refine wpAny_done (by kernel_rfl) ?_ _
            go_wp2
            go_meet
            case rel => exact ⟨rfl, g, cap, HR3.out⟩
        case rest =>
          obtain ⟨rfl, g, cap, HA2⟩ := hcut
          have hown := HA2.out.own
          have hjl := HL.out
          have e2 : wc.cell? ⟨bm, 16, none⟩ = some (.slice (some ⟨g, 0, none⟩) (l.length + 1) cap) := (cell_of HA2.out.obj 16).trans (by rw [Array.getElem?_setIfInBounds_self]; rw [if_pos (Array.getElem?_eq_some_iff.1 hc12).1])
          rw [List.length_append, flatR_append] at hown
          have hown1 : wc.ownsRow W.heap.size 28 3 (.slice (some ⟨g, 0, none⟩) (l.length + 1) cap) (l.length + 1) (flatR Qd.cells l ++ QZ) := hown
          obtain ⟨cur, hgW, hgc, hcap, hcs⟩ : ∃ cur, W.heap.size ≤ g ∧ wc.heap[g]? = some (.cells cur 28 (0, 0)) ∧ l.length + 1 ≤ cap ∧ cur.size = cap * 3 := by
            rcases hown1.2 with ⟨hv, _⟩ | ⟨g', cap', cur, hv, hb, hg, hn, _, hs, _⟩
            · cases hv
            · injection hv with e1 e2 e3
              injection e1 with e1
              injection e1 with e1
              subst e1 e3
              exact ⟨cur, hb, hg, hn, by omega⟩
          have hT := pqid_r bp br g (j * 3) F out lg wg q cur _ wc HA2.out.pen (fun k hk => ⟨(hF k hk).1, by have := HFl.out k hk; omega⟩) hgc (by omega) (by omega) HA2.out.rd HA2.out.ok
          have HO := Lib.hid hown1
          have HGd : Hid (rdQids n q0 [] = rdQids (n - (j + 1)) (rdQid q).2 (l ++ [(rdQid q).1])) := by
            show _ = _
            rw [HG.out, show n - j = (n - (j + 1)) + 1 from by omega]
            conv => lhs; unfold rdQids
            rw [if_neg (by simp [hq])]
          have i1 : (0 : Int) ≤ (j : Int) := by omega
          have i2 : (j : Int) < (l.length : Int) + 1 := by omega
          have i3 : (l.length : Int) + 1 ≤ (cap : Int) := by omega
          have hbn := World.block_lt_of_cell? _ _ HA2.out.n
          have hbm := lt_of HA2.out.obj
          have hgl := lt_of hgc
          clear hown hown1 hgc e12 f12 e12a e12b OWN NEW one
          go_wp2_with fail
          refine hT.mono ?_
          rintro e w2 ⟨rfl, p2⟩
          have HA3 : Hid (QAt W w2 F bp br bm bn out lg wg n cs T (rdQid q).2 (.slice (some ⟨g, 0, none⟩) (l.length + 1) cap) (l ++ [(rdQid q).1])) :=
            ⟨HA2.out.pen.mod p2.md (fun k hk x => by rcases hk with e | e; exact (hF k x).1 e; have := HFl.out k x; omega),
             (p2.md.block bm hbm (fun x => by rcases x with e | e; exact hne e; omega)).trans HA2.out.obj,
             by rw [List.length_append, flatR_append, List.length_singleton, hjl]; rw [hjl] at HO; exact owns_last3 HO.out (by rw [flatR_length qd_len, hjl]) p2.obj,
             p2.rd, keepF p2.md (fun x => by rcases x with e | e <;> omega) HA2.out.n, rdQid_ok HA2.out.ok, HA2.out.m.trans' p2.md fun k hk x => by rcases x with e | e; exact Or.inl (Or.inl e); omega⟩
          clear hT p2
          go_wp2
          go_roundw
          case rel => exact ⟨j + 1, _, _, _, hjn, by go_num, by show _ = _; rw [List.length_append]; exact congrArg (· + 1) hjl, HA3.out, HGd.out⟩
          case measure => simp [intOf]; omega
      · have tf : (q.f == 0) = false := by simp [hq]
        have HFin : Hid (rdQids n q0 [] = (l, q)) := by
          show _ = _
          rw [HG.out, show n - j = (n - (j + 1)) + 1 from by omega]
          conv => lhs; unfold rdQids
          rw [if_pos hq]
        obtain ⟨a, cap, rfl⟩ := owns_form HA.out.own
        by_cases h16 : 16 < l.length
        · have t3 : decide (16 < (l.length : Int)) = true := by simp; omega
          have HLV : Hid ((lg || decide (16 < l.length)) = true) := by show _ = _; simp [h16]
          clear h16
          cases lg
          all_goals
            go_wp2_with (go_at_call 27; refine hft.mono ?_; rintro e wz ⟨rfl, rfl⟩)
            go_end0
            refine ⟨rfl, ?_⟩
            rw [HFin.out]
            simp only [HLV.out]
            exact HA.out.fin true hF hWs hbnW HFl.out M0.out
        · have t3 : decide (16 < (l.length : Int)) = false := by simp; omega
          have HLV : Hid ((lg || decide (16 < l.length)) = lg) := by show _ = _; simp [h16]
          clear h16
          cases lg
          · go_wp2_with (go_at_call 27; refine hft.mono ?_; rintro e wz ⟨rfl, rfl⟩)
            go_end0
            refine ⟨rfl, ?_⟩
            rw [HFin.out]
            simp only [HLV.out]
            exact HA.out.fin false hF hWs hbnW HFl.out M0.out
          · go_wp2_with (go_at_call 27; refine hft.mono ?_; rintro e wz ⟨rfl, rfl⟩)
            go_end0
            refine ⟨rfl, ?_⟩
            rw [HFin.out]
            simp only [HLV.out]
            exact HA.out.fin true hF hWs hbnW HFl.out M0.out
    · have t1 : decide ((j : Int) < (n : Int)) = false := by simp; omega
      have t2 : decide (j < n) = false := by simp; omega
      have HFin : Hid (rdQids n q0 [] = (l, q)) := by
        show _ = _
        rw [HG.out, show n - j = 0 from by omega]; rfl
      obtain ⟨a, cap, rfl⟩ := owns_form HA.out.own
      by_cases h16 : 16 < l.length
      · have t3 : decide (16 < (l.length : Int)) = true := by simp; omega
        have HLV : Hid ((lg || decide (16 < l.length)) = true) := by show _ = _; simp [h16]
        clear h16
        cases lg
        all_goals
          go_wp2
          go_end0
          refine ⟨rfl, ?_⟩
          rw [HFin.out]
          simp only [HLV.out]
          exact HA.out.fin true hF hWs hbnW HFl.out M0.out
      · have t3 : decide (16 < (l.length : Int)) = false := by simp; omega
        have HLV : Hid ((lg || decide (16 < l.length)) = lg) := by show _ = _; simp [h16]
        clear h16
        cases lg
        · go_wp2
          go_end0
          refine ⟨rfl, ?_⟩
          rw [HFin.out]
          simp only [HLV.out]
          exact HA.out.fin false hF hWs hbnW HFl.out M0.out
        · go_wp2
          go_end0
          refine ⟨rfl, ?_⟩
          rw [HFin.out]
          simp only [HLV.out]
          exact HA.out.fin true hF hWs hbnW HFl.out M0.out
end Go.Proofs.YtklpopmjpgdjnaaGreatDoor
