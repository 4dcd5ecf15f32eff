/- FidsPlay: for every bound and every script the table answers as the document says. -/
import Derived.Test.YtcadkaedahoefaaLawStep
import Derived.Test.YtcadkaedahoefaaRefTab4
import Derived.Shelf.SlSortCmp.NoneTotal
namespace Go.Proofs.Ytcadkaedahoefaa
open Go.RowKit

theorem sort_none : SortNone := fun W => AnyF.slices_SortFunc_none { Try.sortHeld with } none 0 _ W
theorem TabAt.lt {w : World} {F : Nat → Prop} {b n : Nat} {l : HL} {most : Int} (h : TabAt w F b n l most) : ∀ k, F k → k < w.heap.size := by
  obtain ⟨mb, h⟩ := h
  exact h.lt
theorem TabAt.ri {w : World} {F : Nat → Prop} {b n : Nat} {l : HL} {most : Int} (h : TabAt w F b n l most) : Rising l := by
  obtain ⟨mb, h⟩ := h
  exact h.ri
theorem TabAt.le {w : World} {F : Nat → Prop} {b n : Nat} {l : HL} {most : Int} (h : TabAt w F b n l most) : l.length ≤ n := by
  obtain ⟨mb, h⟩ := h
  exact h.map.le
theorem DocAt.lt {w : World} {F : Nat → Prop} {b : Nat} {l : HL} {most : Int} (h : DocAt w F b l most) : ∀ k, F k → k < w.heap.size := by
  obtain ⟨mb, h⟩ := h
  exact h.lt
theorem DocAt.made (w : World) (m : Int) : DocAt (w.alloc (.cells #[.slice none 0 0, .int .i64 m] 55)) (· = w.heap.size) w.heap.size [] m :=
  ⟨.slice none 0 0, new_at _ _, OwnA.nil _ _ _, fun k h => by simp [Value.ownBlock] at h, rfl, fun k h => by rw [h]; simp⟩
/-- code's and document's table side by side -/
structure BothT (w W : World) (bt br : Nat) (l : HL) (most : Int) (n : Nat) (Fc Fr : Nat → Prop) : Prop where
  c : TabAt W Fc bt n l most
  r : DocAt W Fr br l most
  ap : ∀ k, Fc k → ¬ Fr k
  cb : ∀ k, Fc k → w.heap.size ≤ k
  rb : ∀ k, Fr k → w.heap.size ≤ k
  m : Mod (fun _ => False) w W
theorem BothT.mod {w W W' : World} {bt br n : Nat} {l : HL} {most : Int} {Fc Fr : Nat → Prop} (h : BothT w W bt br l most n Fc Fr) (hm : Mod (fun _ => False) W W') : BothT w W' bt br l most n Fc Fr :=
  ⟨h.c.mod hm (fun _ x => x.elim), h.r.mod hm (fun _ x => x.elim), h.ap, h.cb, h.rb, h.m.trans hm⟩
theorem BothT.mono {w W : World} {bt br n n' : Nat} {l : HL} {most : Int} {Fc Fr : Nat → Prop} (h : BothT w W bt br l most n Fc Fr) (hn : n ≤ n') : BothT w W bt br l most n' Fc Fr :=
  ⟨h.c.mono hn, h.r, h.ap, h.cb, h.rb, h.m⟩
theorem BothT.step {w W W4 W4' W5 : World} {bt br n n' : Nat} {l l' : HL} {most : Int} {Fc Fr F2 : Nat → Prop} (h : BothT w W bt br l most n Fc Fr) (g1 : TabAt W4 Fc bt n' l' most) (q1 : Mod Fc W W4) (qa : Mod (fun _ => False) W4 W4')
    (g2 : DocAt W5 F2 br l' most) (q2 : Mod Fr W4' W5) (k2 : Grows W4' Fr F2) : BothT w W5 bt br l' most n' Fc F2 := by
  have a1 : ∀ k, Fc k → ¬ Fr k := h.ap
  have hs := h.m.size
  have h1 := q1.size
  have h2 := qa.size
  refine ⟨(g1.mod qa (fun _ x => x.elim)).mod q2 (fun k hk hf => a1 k hf hk), g2, fun k hk h2 => ?_, h.cb, k2.above h.rb (by omega), ?_⟩
  · rcases k2 k h2 with x | x
    · exact a1 k hk x
    · have := h.c.lt k hk; omega
  · exact ((h.m.trans' q1 fun k hk x => by have := h.cb k x; omega).trans qa).trans' q2 fun k hk x => by have := h.rb k x; omega
end Go.Proofs.Ytcadkaedahoefaa
namespace Go.Proofs.Ytcadkaedahoefaa.fidsPlay
open Go.ChangeShapes Go.WideShapes Go.ChangeAt Go.RowKit

set_option maxRecDepth 100000 in
set_option maxHeartbeats 8000000 in
theorem walk (m : Int) (s : List Stp) (v : Value) (w : World) (hR : Reads Stp.cells 7 w v s) (hok : ∀ a ∈ s, a.n < 4294967296) :
    Calls Try.prog 5 #[.int .i64 m, v] w fun e w' => e = .returned (.bool true) ∧ Mod (fun _ => False) w w' := by
  have hW := works_any
  obtain ⟨a, cap, rfl, hlm, hrd⟩ := hR
  unfold maxLen at hlm
  by_cases h300 : 300 < s.length
  · have t1 : decide (300 < (s.length : Int)) = true := by simp; omega
    clear hrd hok
    go_enter Try.func5, Try.ntmps5
    go_wp2_with fail
    refine (hW _).mono ?_
    rintro e w2 ⟨rfl, m2⟩
    go_wp2
    go_ret
    exact ⟨rfl, m2⟩
  have t1 : decide (300 < (s.length : Int)) = false := by simp; omega
  have hN := newtab_any m w
  cases hbm : badMostF m with
  | true =>
    have hb2 := hbm
    unfold badMostF at hb2
    rw [hbm] at hN
    clear hrd hok
    by_cases h1 : m < 1
    · have u1 : decide (m < 1) = true := by simp [h1]
      clear hb2
      go_enter Try.func5, Try.ntmps5
      go_wp2_with fail
      refine hN.mono ?_
      rintro e w1 ⟨hx, _⟩
      obtain ⟨rfl, rfl⟩ := hx (by first | rfl | trivial)
      clear hN
      go_wp2_with fail
      refine (hW _).mono ?_
      rintro e w2 ⟨rfl, m2⟩
      go_wp2
      go_ret
      exact ⟨rfl, m2⟩
    · have u1 : decide (m < 1) = false := by simp; omega
      have u2 : decide (64 < m) = true := by rw [u1] at hb2; exact hb2
      clear hb2
      go_enter Try.func5, Try.ntmps5
      go_wp2_with fail
      refine hN.mono ?_
      rintro e w1 ⟨hx, _⟩
      obtain ⟨rfl, rfl⟩ := hx (by first | rfl | trivial)
      clear hN
      go_wp2_with fail
      refine (hW _).mono ?_
      rintro e w2 ⟨rfl, m2⟩
      go_wp2
      go_ret
      exact ⟨rfl, m2⟩
  | false =>
    have hb2 := hbm
    unfold badMostF at hb2
    rw [Bool.or_eq_false_iff] at hb2
    obtain ⟨u1, u2⟩ := hb2
    rw [hbm] at hN
    have HRd := Lib.hid hrd
    have HOk := Lib.hid hok
    clear hrd hok
    have tt : ∀ x : Int, (x != x) = false := fun x => by simp
    have tb : ∀ x : Bool, (x != x) = false := fun x => by simp
    go_enter Try.func5, Try.ntmps5
    go_wp2_with fail
    refine hN.mono ?_
    rintro e w1 ⟨_, hx⟩
    obtain ⟨bt, rfl, hT1, mt1⟩ := hx (by first | rfl | trivial)
    obtain ⟨w2, hw2⟩ : ∃ w2, w1.alloc (.cells #[.slice none 0 0, .int .i64 m] 55) = w2 := ⟨_, rfl⟩
    obtain ⟨br, hbr⟩ : ∃ br, w1.heap.size = br := ⟨_, rfl⟩
    have HB : Hid (∃ Fc Fr, BothT w w2 bt br [] m 0 Fc Fr) := by
      have hr : DocAt w2 (· = w1.heap.size) w1.heap.size [] m := by rw [← hw2]; exact DocAt.made w1 m
      rw [hbr] at hr
      have ma : Mod (fun _ => False) w1 w2 := by rw [← hw2]; exact (Mod.refl _ _).alloc _
      have hs := mt1.size
      exact ⟨_, _, hT1.mod ma (fun _ x => x.elim), hr, fun k h1 h2 => by omega, fun k h => h.1, fun k h => by omega, mt1.trans ma⟩
    clear hN hx hT1 mt1
    go_wp2
    go_loopw [4, 8] (fun r i wr => ∃ (k : Nat) (l : HL) (Fc Fr : Nat → Prop), k ≤ s.length ∧ r = .bool false ∧ i = .int .i64 k ∧ Hid (BothT w wr bt br l m k Fc Fr)) (fun _ i _ => s.length - (intOf i).toNat)
    case atStart =>
      obtain ⟨Fc, Fr, h⟩ := HB.out
      exact ⟨0, _, _, _, by omega, rfl, rfl, h⟩
    case round =>
      obtain ⟨k, l, Fc, Fr, hk, rfl, rfl, HBr⟩ := hrel
      by_cases hlt : k < s.length
      · obtain ⟨g, off, rfl, hg, hc⟩ := HRd.out k hlt
        have hao := HOk.out s[k] (List.getElem_mem hlt)
        have t5 : decide ((k : Int) < (s.length : Int)) = true := by simp; omega
        have j1 : (0 : Int) ≤ (k : Int) := by omega
        have j2 : (k : Int) < (s.length : Int) := by omega
        have c0 := keepR HBr.out.m (hc 0 _ rfl)
        have c1 := keepR HBr.out.m (hc 1 _ rfl)
        have c2 := keepR HBr.out.m (hc 2 _ rfl)
        have c3 := keepR HBr.out.m (hc 3 _ rfl)
        have c4 := keepR HBr.out.m (hc 4 _ rfl)
        have c5 := keepR HBr.out.m (hc 5 _ rfl)
        have c6 := keepR HBr.out.m (hc 6 _ rfl)
        rw [Nat.add_zero] at c0
        generalize s[k] = A at *
        obtain ⟨d, x, q⟩ := A
        simp only at c0 c1 c2 c3 c4 c5 c6 hao
        obtain ⟨W2, hW2⟩ : ∃ W2, wr.alloc (.cells #[.int .i64 d, .int .u32 x, .int .u64 q.path, .string q.who, .bool q.opn, .int .u8 q.mode, .int .u64 q.next] 61) = W2 := ⟨_, rfl⟩
        have hBx : W2.heap[wr.heap.size]? = some (.cells #[.int .i64 d, .int .u32 x, .int .u64 q.path, .string q.who, .bool q.opn, .int .u8 q.mode, .int .u64 q.next] 61 (0, 0)) := by subst hW2; exact new_at _ _
        have m2 : Mod (fun _ => False) wr W2 := by subst hW2; exact (Mod.refl _ _).alloc _
        obtain ⟨bs, hbs⟩ : ∃ bs, wr.heap.size = bs := ⟨_, rfl⟩
        have hcl : ∀ k, Fc k → k < bs := fun k hk => by rw [← hbs]; exact HBr.out.c.lt k hk
        have hrl : ∀ k, Fr k → k < bs := fun k hk => by rw [← hbs]; exact HBr.out.r.lt k hk
        have hri := Lib.hid HBr.out.c.ri
        have hle := HBr.out.c.le
        rw [hbs] at hBx
        have b0 : W2.cell? ⟨bs, 0, none⟩ = some (.int .i64 d) := (cell_of hBx 0).trans rfl
        have b1 : W2.cell? ⟨bs, 1, none⟩ = some (.int .u32 x) := (cell_of hBx 1).trans rfl
        have b2 : W2.cell? ⟨bs, 2, none⟩ = some (.int .u64 q.path) := (cell_of hBx 2).trans rfl
        have b3 : W2.cell? ⟨bs, 3, none⟩ = some (.string q.who) := (cell_of hBx 3).trans rfl
        have b4 : W2.cell? ⟨bs, 4, none⟩ = some (.bool q.opn) := (cell_of hBx 4).trans rfl
        have b5 : W2.cell? ⟨bs, 5, none⟩ = some (.int .u8 q.mode) := (cell_of hBx 5).trans rfl
        have b6 : W2.cell? ⟨bs, 6, none⟩ = some (.int .u64 q.next) := (cell_of hBx 6).trans rfl
        have HB2 := Lib.hid (HBr.out.mod m2)
        have hbsl : bs < W2.heap.size := lt_of hBx
        have h300' : s.length ≤ 300 := by omega
        have kF : ∀ (F : Nat → Prop), (∀ k, F k → k < bs) → ∀ i v U V, U.cell? ⟨bs, i, none⟩ = some v → Mod F U V → V.cell? ⟨bs, i, none⟩ = some v := fun F hF i v U V h hm => (World.cell?_of_block (a := ⟨bs, i, none⟩) (hm.block bs (lt_of_cell h) (fun x => by have := hF bs x; omega))).trans h
        clear hc m2 HBr HRd HOk hw2 hg HB
        by_cases hd0 : d = 0
        · have u3 : (d == 0) = true := by simp [hd0]
          obtain ⟨l', r, hV⟩ : ∃ l' r, addS l m x q = (l', r) := ⟨_, _, rfl⟩
          have hC := add_any W2.drew Fc bt k x q l m (HB2.out.c.mod (Mod.refl (fun _ => False) W2).drew (fun _ x => x.elim)) hao (by omega)
          have hRf := fun U hU => radd_any U Fr br x q l m hU hri.out (by omega)
          rw [hV] at hC hRf
          unfold Fd.v at hC hRf
          have HBd := Lib.hid (HB2.out.mod (Mod.refl (fun _ => False) W2).drew)
          have hS : ((W2).cell? ⟨bs, 1, none⟩ = some (.int .u32 x) ∧ (W2).cell? ⟨bs, 2, none⟩ = some (.int .u64 q.path) ∧ (W2).cell? ⟨bs, 3, none⟩ = some (.string q.who) ∧ (W2).cell? ⟨bs, 4, none⟩ = some (.bool q.opn) ∧ (W2).cell? ⟨bs, 5, none⟩ = some (.int .u8 q.mode) ∧ (W2).cell? ⟨bs, 6, none⟩ = some (.int .u64 q.next)) := ⟨b1, b2, b3, b4, b5, b6⟩
          have hSd : ((W2.drew).cell? ⟨bs, 1, none⟩ = some (.int .u32 x) ∧ (W2.drew).cell? ⟨bs, 2, none⟩ = some (.int .u64 q.path) ∧ (W2.drew).cell? ⟨bs, 3, none⟩ = some (.string q.who) ∧ (W2.drew).cell? ⟨bs, 4, none⟩ = some (.bool q.opn) ∧ (W2.drew).cell? ⟨bs, 5, none⟩ = some (.int .u8 q.mode) ∧ (W2.drew).cell? ⟨bs, 6, none⟩ = some (.int .u64 q.next)) := hS
          have hSk : ∀ (F : Nat → Prop), (∀ k, F k → k < bs) → ∀ (U V : World), ((U).cell? ⟨bs, 1, none⟩ = some (.int .u32 x) ∧ (U).cell? ⟨bs, 2, none⟩ = some (.int .u64 q.path) ∧ (U).cell? ⟨bs, 3, none⟩ = some (.string q.who) ∧ (U).cell? ⟨bs, 4, none⟩ = some (.bool q.opn) ∧ (U).cell? ⟨bs, 5, none⟩ = some (.int .u8 q.mode) ∧ (U).cell? ⟨bs, 6, none⟩ = some (.int .u64 q.next)) → Mod F U V → ((V).cell? ⟨bs, 1, none⟩ = some (.int .u32 x) ∧ (V).cell? ⟨bs, 2, none⟩ = some (.int .u64 q.path) ∧ (V).cell? ⟨bs, 3, none⟩ = some (.string q.who) ∧ (V).cell? ⟨bs, 4, none⟩ = some (.bool q.opn) ∧ (V).cell? ⟨bs, 5, none⟩ = some (.int .u8 q.mode) ∧ (V).cell? ⟨bs, 6, none⟩ = some (.int .u64 q.next)) := by
            rintro F hF U V ⟨h1, h2, h3, h4, h5, h6⟩ hm
            exact ⟨kF F hF _ _ _ _ h1 hm, kF F hF _ _ _ _ h2 hm, kF F hF _ _ _ _ h3 hm, kF F hF _ _ _ _ h4 hm, kF F hF _ _ _ _ h5 hm, kF F hF _ _ _ _ h6 hm⟩
          clear hV hd0
          go_wp2
          refine wp_onlyN ?_
          go_region_held_law (fun w' => ((w').cell? ⟨bs, 1, none⟩ = some (.int .u32 x) ∧ (w').cell? ⟨bs, 2, none⟩ = some (.int .u64 q.path) ∧ (w').cell? ⟨bs, 3, none⟩ = some (.string q.who) ∧ (w').cell? ⟨bs, 4, none⟩ = some (.bool q.opn) ∧ (w').cell? ⟨bs, 5, none⟩ = some (.int .u8 q.mode) ∧ (w').cell? ⟨bs, 6, none⟩ = some (.int .u64 q.next))) (first | exact hSk Fr hrl _ _ (hSk Fc hcl _ _ hSd q1) q2 | exact hSk Fc hcl _ _ hSd q1 | exact hS) (first
            | (go_at_call 18; refine hC.mono ?_; rintro e w4 ⟨rfl, g1, q1⟩)
            | (go_at_call 19; refine (hRf _ (HBd.out.r.mod q1 HBd.out.ap)).mono ?_; rintro e w5 ⟨rfl, F2, g2, q2, k2⟩))
          all_goals refine onlyN_out ?_
          have HB5 := Lib.hid (HBd.out.step g1 q1 (Mod.refl _ _) g2 q2 k2)
          have p2 := (hSk Fr hrl _ _ (hSk Fc hcl _ _ hSd q1) q2).2.1
          clear hC hRf HBd hS hSd hSk g1 q1 g2 q2 k2 HB2 b0 b1 b2 b3 b4 b5 b6 c0 c1 c2 c3 c4 c5 c6
          obtain ⟨U, hU⟩ : ∃ U, w5 = U := ⟨_, rfl⟩
          obtain ⟨Fr', hFr⟩ : ∃ Fr', F2 = Fr' := ⟨_, rfl⟩
          rw [hU, hFr] at HB5
          rw [hU] at p2 ⊢
          clear hU hFr
          have hl5 : l'.length ≤ k + 1 := (HB5.out).c.le
          have hAll := all_any U Fc bt (k + 1) l' m (HB5.out).c (by omega) (fun _ => sort_none)
          have HB5 := Lib.hid HB5.out
          go_wp2_with fail
          refine hAll.mono ?_
          rintro e U2 ⟨v7, rfl, hv7, m7⟩
          obtain ⟨xa, xc, rfl, hxc, hxx⟩ := hv7.form
          have HB7 := Lib.hid (HB5.out.mod m7)
          have HX := Lib.hid hxx
          have z2 := keepR m7 p2
          clear hAll hv7 hxx m7 HB5 p2
          obtain ⟨vl, hP⟩ := HB7.out.r
          obtain ⟨la, lc, rfl, hlc, hlx⟩ := hP.held.form
          have HL7 := Lib.hid hlx
          have hc0 : U2.cell? ⟨br, 0, none⟩ = some (.slice la l'.length lc) := (cell_of hP.obj 0).trans rfl
          have hOn := on_any U2.drew Fc bt (k + 1) q.path l' m (HB7.out.c.mod (Mod.refl (fun _ => False) U2).drew (fun _ x => x.elim)) (by omega) (fun _ => sort_none)
          have hLn := len_any U2.drew Fc bt (k + 1) l' m (HB7.out.c.mod (Mod.refl (fun _ => False) U2).drew (fun _ x => x.elim))
          have hRn : ∀ V, Mod (fun _ => False) U2.drew V → Calls Try.prog 29 #[.pointer (some ⟨br, 0, none⟩), .int .u64 q.path] V fun e w' => e = .returned (.int .i64 (onS l' q.path)) ∧ w' = V := fun V hV => ron_any V Fr' br q.path l' m ((HB7.out.r.mod (Mod.refl (fun _ => False) U2).drew (fun _ x => x.elim)).mod hV (fun _ x => x.elim)) (by omega)
          clear hP hlx
          go_wp2
          refine wp_onlyN ?_
          go_region_held_law (fun w' => w'.cell? ⟨br, 0, none⟩ = some (.slice la l'.length lc) ∧ w'.cell? ⟨bs, 2, none⟩ = some (.int .u64 q.path)) (first | exact ⟨keepR m8 hc0, keepR m8 z2⟩ | exact ⟨hc0, z2⟩) (first
            | (go_at_call 27; refine hLn.mono ?_; rintro e w8 ⟨rfl, rfl⟩)
            | (go_at_call 28; refine hOn.mono ?_; rintro e w9 ⟨rfl, m8⟩)
            | (go_at_call 29; refine (hRn _ m8).mono ?_; rintro e w10 ⟨rfl, rfl⟩))
          all_goals refine onlyN_out ?_
          have HB9 := Lib.hid (HB7.out.mod ((Mod.refl (fun _ => False) U2).drew.trans m8))
          have HM9 := Lib.hid ((Mod.refl (fun _ => False) U2).drew.trans m8)
          have hc9 := keepR m8 hc0
          clear hOn hLn hRn m8 hc0 z2 HB7
          obtain ⟨U3, hU3⟩ : ∃ U3, w10 = U3 := ⟨_, rfl⟩
          rw [hU3] at HB9 HM9 hc9 ⊢
          clear hU3
          go_wp2
          go_loopw [4, 19] (fun r i wr => ∃ (j : Nat), j ≤ l'.length ∧ r = .bool false ∧ i = .int .i64 j ∧ Hid (Mod (fun _ => False) U3 wr)) (fun _ i _ => l'.length - (intOf i).toNat)
          case atStart => exact ⟨0, Nat.zero_le _, rfl, rfl, Mod.refl _ _⟩
          case round =>
            obtain ⟨j, hj, rfl, rfl, HMj⟩ := hrel
            by_cases hjl : j < l'.length
            · obtain ⟨g1, o1, rfl, _, hg1, hc1⟩ := HX.out j l'[j] (List.getElem?_eq_getElem hjl)
              obtain ⟨g2, o2, rfl, _, hg2, hc2⟩ := HL7.out j l'[j] (List.getElem?_eq_getElem hjl)
              have hm9 := HM9.out.trans HMj.out
              have t7 : decide ((j : Int) < (l'.length : Int)) = true := by simp; omega
              have i1 : (0 : Int) ≤ (j : Int) := by omega
              have i2 : (j : Int) < (l'.length : Int) := by omega
              have i3 : (l'.length : Int) ≤ (xc : Int) := by omega
              have i4 : (l'.length : Int) ≤ (lc : Int) := by omega
              generalize l'[j] = E at *
              have d0 := keepR hm9 (hc1 0 _ rfl)
              have d1 := keepR hm9 (hc1 1 _ rfl)
              have d2 := keepR hm9 (hc1 2 _ rfl)
              have d3 := keepR hm9 (hc1 3 _ rfl)
              have d4 := keepR hm9 (hc1 4 _ rfl)
              have d5 := keepR hm9 (hc1 5 _ rfl)
              have f0 := keepR hm9 (hc2 0 _ rfl)
              have f1 := keepR hm9 (hc2 1 _ rfl)
              have f2 := keepR hm9 (hc2 2 _ rfl)
              have f3 := keepR hm9 (hc2 3 _ rfl)
              have f4 := keepR hm9 (hc2 4 _ rfl)
              have f5 := keepR hm9 (hc2 5 _ rfl)
              rw [Nat.add_zero] at d0 f0
              have hcj := keepR HMj.out hc9
              have hne := neH E
              clear hc1 hc2 hm9 hc9
              go_wp2
              go_quiet (fail)
              go_wp2
              go_roundw
              case rel => exact ⟨j + 1, hjl, rfl, by go_num, Lib.hid (by first | exact HMj.out | exact HMj.out.drewN _ | exact HMj.out.drew)⟩
              case measure => simp [intOf]; omega
            · obtain rfl : j = l'.length := by omega
              have t7 : decide ((l'.length : Int) < (l'.length : Int)) = false := by simp
              have HBz := Lib.hid (HB9.out.mod HMj.out)
              clear HX HL7 HB9 HM9 hc9 HMj
              go_wp2
              go_roundw
              case rel => exact ⟨k + 1, l', Fc, Fr', hlt, rfl, by go_num, HBz⟩
              case measure => simp [intOf]; omega
        · have u3 : (d == 0) = false := by simp [hd0]
          by_cases hd1 : d = 1
          · have u4 : (d == 1) = true := by simp [hd1]
            obtain ⟨y, r, hV⟩ : ∃ y r, getS l x = (y, r) := ⟨_, _, rfl⟩
            have hC := get_any W2 Fc bt k x l m HB2.out.c hao
            have hRf := fun U hU => rget_any U Fr br x l m hU hri.out (by omega)
            rw [hV] at hC hRf
            unfold Fd.v at hC hRf
            have hne := neF y
            clear hV hd0 hd1
            go_wp2_with fail
            refine hC.mono ?_
            rintro e w4 ⟨rfl, q1⟩
            obtain ⟨Wa, hWa⟩ : ∃ Wa, w4.alloc (.cells #[.int .u64 (y).path, .string (y).who, .bool (y).opn, .int .u8 (y).mode, .int .u64 (y).next] 59) = Wa := ⟨_, rfl⟩
            obtain ⟨ba, hbaE⟩ : ∃ ba, w4.heap.size = ba := ⟨_, rfl⟩
            have hba : Wa.heap[ba]? = some (.cells #[.int .u64 (y).path, .string (y).who, .bool (y).opn, .int .u8 (y).mode, .int .u64 (y).next] 59 (0, 0)) := by rw [← hWa, ← hbaE]; exact new_at _ _
            have ma : Mod (fun _ => False) w4 Wa := by rw [← hWa]; exact (Mod.refl _ _).alloc _
            have y0 : Wa.cell? ⟨ba, 0, none⟩ = some (.int .u64 y.path) := (cell_of hba 0).trans rfl
            have y1 : Wa.cell? ⟨ba, 1, none⟩ = some (.string y.who) := (cell_of hba 1).trans rfl
            have y2 : Wa.cell? ⟨ba, 2, none⟩ = some (.bool y.opn) := (cell_of hba 2).trans rfl
            have y3 : Wa.cell? ⟨ba, 3, none⟩ = some (.int .u8 y.mode) := (cell_of hba 3).trans rfl
            have y4 : Wa.cell? ⟨ba, 4, none⟩ = some (.int .u64 y.next) := (cell_of hba 4).trans rfl
            have HBa := Lib.hid (HB2.out.mod (q1.trans ma))
            have b1' := keepR (q1.trans ma) b1
            have p2' := keepR (q1.trans ma) b2
            have hRf' := hRf _ HBa.out.r
            clear q1 ma hba
            go_wp2_with fail
            refine hRf'.mono ?_
            rintro e w5 ⟨rfl, q2⟩
            have q2' := q2
            obtain ⟨U, hU⟩ : ∃ U, w5.alloc (.cells #[.int .u64 (y).path, .string (y).who, .bool (y).opn, .int .u8 (y).mode, .int .u64 (y).next] 59) = U := ⟨_, rfl⟩
            obtain ⟨bb, hbbE⟩ : ∃ bb, w5.heap.size = bb := ⟨_, rfl⟩
            have hbb : U.heap[bb]? = some (.cells #[.int .u64 (y).path, .string (y).who, .bool (y).opn, .int .u8 (y).mode, .int .u64 (y).next] 59 (0, 0)) := by rw [← hU, ← hbbE]; exact new_at _ _
            have mb : Mod (fun _ => False) w5 U := by rw [← hU]; exact (Mod.refl _ _).alloc _
            have z0 : U.cell? ⟨bb, 0, none⟩ = some (.int .u64 y.path) := (cell_of hbb 0).trans rfl
            have z1 : U.cell? ⟨bb, 1, none⟩ = some (.string y.who) := (cell_of hbb 1).trans rfl
            have z2 : U.cell? ⟨bb, 2, none⟩ = some (.bool y.opn) := (cell_of hbb 2).trans rfl
            have z3 : U.cell? ⟨bb, 3, none⟩ = some (.int .u8 y.mode) := (cell_of hbb 3).trans rfl
            have z4 : U.cell? ⟨bb, 4, none⟩ = some (.int .u64 y.next) := (cell_of hbb 4).trans rfl
            have kY : ∀ i v, Wa.cell? ⟨ba, i, none⟩ = some v → U.cell? ⟨ba, i, none⟩ = some v := fun i v h => keepR mb ((fun i v h => keepR q2 h) i v h)
            have x0 := kY _ _ y0
            have x1 := kY _ _ y1
            have x2 := kY _ _ y2
            have x3 := kY _ _ y3
            have x4 := kY _ _ y4
            clear kY y0 y1 y2 y3 y4
            have HB5 := Lib.hid ((HBa.out.mod (q2.trans mb)).mono (Nat.le_succ k))
            have p2 := keepR (q2.trans mb) p2'
            obtain ⟨l', hl'⟩ : ∃ l', l = l' := ⟨_, rfl⟩
            obtain ⟨Fr', hFr⟩ : ∃ Fr', Fr = Fr' := ⟨_, rfl⟩
            rw [hl', hFr] at HB5
            clear hC hRf hRf' q2 q2' mb hbb HB2 HBa b0 b1 b2 b3 b4 b5 b6 b1' c0 c1 c2 c3 c4 c5 c6 p2' hl' hFr
            have hl5 : l'.length ≤ k + 1 := (HB5.out).c.le
            have hAll := all_any U Fc bt (k + 1) l' m (HB5.out).c (by omega) (fun _ => sort_none)
            have HB5 := Lib.hid HB5.out
            go_wp2_with fail
            refine hAll.mono ?_
            rintro e U2 ⟨v7, rfl, hv7, m7⟩
            obtain ⟨xa, xc, rfl, hxc, hxx⟩ := hv7.form
            have HB7 := Lib.hid (HB5.out.mod m7)
            have HX := Lib.hid hxx
            have z2 := keepR m7 p2
            clear hAll hv7 hxx m7 HB5 p2
            obtain ⟨vl, hP⟩ := HB7.out.r
            obtain ⟨la, lc, rfl, hlc, hlx⟩ := hP.held.form
            have HL7 := Lib.hid hlx
            have hc0 : U2.cell? ⟨br, 0, none⟩ = some (.slice la l'.length lc) := (cell_of hP.obj 0).trans rfl
            have hOn := on_any U2.drew Fc bt (k + 1) q.path l' m (HB7.out.c.mod (Mod.refl (fun _ => False) U2).drew (fun _ x => x.elim)) (by omega) (fun _ => sort_none)
            have hLn := len_any U2.drew Fc bt (k + 1) l' m (HB7.out.c.mod (Mod.refl (fun _ => False) U2).drew (fun _ x => x.elim))
            have hRn : ∀ V, Mod (fun _ => False) U2.drew V → Calls Try.prog 29 #[.pointer (some ⟨br, 0, none⟩), .int .u64 q.path] V fun e w' => e = .returned (.int .i64 (onS l' q.path)) ∧ w' = V := fun V hV => ron_any V Fr' br q.path l' m ((HB7.out.r.mod (Mod.refl (fun _ => False) U2).drew (fun _ x => x.elim)).mod hV (fun _ x => x.elim)) (by omega)
            clear hP hlx
            go_wp2
            refine wp_onlyN ?_
            go_region_held_law (fun w' => w'.cell? ⟨br, 0, none⟩ = some (.slice la l'.length lc) ∧ w'.cell? ⟨bs, 2, none⟩ = some (.int .u64 q.path)) (first | exact ⟨keepR m8 hc0, keepR m8 z2⟩ | exact ⟨hc0, z2⟩) (first
              | (go_at_call 27; refine hLn.mono ?_; rintro e w8 ⟨rfl, rfl⟩)
              | (go_at_call 28; refine hOn.mono ?_; rintro e w9 ⟨rfl, m8⟩)
              | (go_at_call 29; refine (hRn _ m8).mono ?_; rintro e w10 ⟨rfl, rfl⟩))
            all_goals refine onlyN_out ?_
            have HB9 := Lib.hid (HB7.out.mod ((Mod.refl (fun _ => False) U2).drew.trans m8))
            have HM9 := Lib.hid ((Mod.refl (fun _ => False) U2).drew.trans m8)
            have hc9 := keepR m8 hc0
            clear hOn hLn hRn m8 hc0 z2 HB7
            obtain ⟨U3, hU3⟩ : ∃ U3, w10 = U3 := ⟨_, rfl⟩
            rw [hU3] at HB9 HM9 hc9 ⊢
            clear hU3
            go_wp2
            go_loopw [4, 19] (fun r i wr => ∃ (j : Nat), j ≤ l'.length ∧ r = .bool false ∧ i = .int .i64 j ∧ Hid (Mod (fun _ => False) U3 wr)) (fun _ i _ => l'.length - (intOf i).toNat)
            case atStart => exact ⟨0, Nat.zero_le _, rfl, rfl, Mod.refl _ _⟩
            case round =>
              obtain ⟨j, hj, rfl, rfl, HMj⟩ := hrel
              by_cases hjl : j < l'.length
              · obtain ⟨g1, o1, rfl, _, hg1, hc1⟩ := HX.out j l'[j] (List.getElem?_eq_getElem hjl)
                obtain ⟨g2, o2, rfl, _, hg2, hc2⟩ := HL7.out j l'[j] (List.getElem?_eq_getElem hjl)
                have hm9 := HM9.out.trans HMj.out
                have t7 : decide ((j : Int) < (l'.length : Int)) = true := by simp; omega
                have i1 : (0 : Int) ≤ (j : Int) := by omega
                have i2 : (j : Int) < (l'.length : Int) := by omega
                have i3 : (l'.length : Int) ≤ (xc : Int) := by omega
                have i4 : (l'.length : Int) ≤ (lc : Int) := by omega
                generalize l'[j] = E at *
                have d0 := keepR hm9 (hc1 0 _ rfl)
                have d1 := keepR hm9 (hc1 1 _ rfl)
                have d2 := keepR hm9 (hc1 2 _ rfl)
                have d3 := keepR hm9 (hc1 3 _ rfl)
                have d4 := keepR hm9 (hc1 4 _ rfl)
                have d5 := keepR hm9 (hc1 5 _ rfl)
                have f0 := keepR hm9 (hc2 0 _ rfl)
                have f1 := keepR hm9 (hc2 1 _ rfl)
                have f2 := keepR hm9 (hc2 2 _ rfl)
                have f3 := keepR hm9 (hc2 3 _ rfl)
                have f4 := keepR hm9 (hc2 4 _ rfl)
                have f5 := keepR hm9 (hc2 5 _ rfl)
                rw [Nat.add_zero] at d0 f0
                have hcj := keepR HMj.out hc9
                have hne := neH E
                clear hc1 hc2 hm9 hc9
                go_wp2
                go_quiet (fail)
                go_wp2
                go_roundw
                case rel => exact ⟨j + 1, hjl, rfl, by go_num, Lib.hid (by first | exact HMj.out | exact HMj.out.drewN _ | exact HMj.out.drew)⟩
                case measure => simp [intOf]; omega
              · obtain rfl : j = l'.length := by omega
                have t7 : decide ((l'.length : Int) < (l'.length : Int)) = false := by simp
                have HBz := Lib.hid (HB9.out.mod HMj.out)
                clear HX HL7 HB9 HM9 hc9 HMj
                go_wp2
                go_roundw
                case rel => exact ⟨k + 1, l', Fc, Fr', hlt, rfl, by go_num, HBz⟩
                case measure => simp [intOf]; omega
          have u4 : (d == 1) = false := by simp [hd1]
          by_cases hd2 : d = 2
          · have u5 : (d == 2) = true := by simp [hd2]
            obtain ⟨l', r, hV⟩ : ∃ l' r, putS l x q = (l', r) := ⟨_, _, rfl⟩
            have hC := set_any W2.drew Fc bt k x q l m (HB2.out.c.mod (Mod.refl (fun _ => False) W2).drew (fun _ x => x.elim)) hao (by omega)
            have hRf := fun U hU => rset_any U Fr br x q l m hU hri.out (by omega)
            rw [hV] at hC hRf
            unfold Fd.v at hC hRf
            have HBd := Lib.hid (HB2.out.mod (Mod.refl (fun _ => False) W2).drew)
            have hS : ((W2).cell? ⟨bs, 1, none⟩ = some (.int .u32 x) ∧ (W2).cell? ⟨bs, 2, none⟩ = some (.int .u64 q.path) ∧ (W2).cell? ⟨bs, 3, none⟩ = some (.string q.who) ∧ (W2).cell? ⟨bs, 4, none⟩ = some (.bool q.opn) ∧ (W2).cell? ⟨bs, 5, none⟩ = some (.int .u8 q.mode) ∧ (W2).cell? ⟨bs, 6, none⟩ = some (.int .u64 q.next)) := ⟨b1, b2, b3, b4, b5, b6⟩
            have hSd : ((W2.drew).cell? ⟨bs, 1, none⟩ = some (.int .u32 x) ∧ (W2.drew).cell? ⟨bs, 2, none⟩ = some (.int .u64 q.path) ∧ (W2.drew).cell? ⟨bs, 3, none⟩ = some (.string q.who) ∧ (W2.drew).cell? ⟨bs, 4, none⟩ = some (.bool q.opn) ∧ (W2.drew).cell? ⟨bs, 5, none⟩ = some (.int .u8 q.mode) ∧ (W2.drew).cell? ⟨bs, 6, none⟩ = some (.int .u64 q.next)) := hS
            have hSk : ∀ (F : Nat → Prop), (∀ k, F k → k < bs) → ∀ (U V : World), ((U).cell? ⟨bs, 1, none⟩ = some (.int .u32 x) ∧ (U).cell? ⟨bs, 2, none⟩ = some (.int .u64 q.path) ∧ (U).cell? ⟨bs, 3, none⟩ = some (.string q.who) ∧ (U).cell? ⟨bs, 4, none⟩ = some (.bool q.opn) ∧ (U).cell? ⟨bs, 5, none⟩ = some (.int .u8 q.mode) ∧ (U).cell? ⟨bs, 6, none⟩ = some (.int .u64 q.next)) → Mod F U V → ((V).cell? ⟨bs, 1, none⟩ = some (.int .u32 x) ∧ (V).cell? ⟨bs, 2, none⟩ = some (.int .u64 q.path) ∧ (V).cell? ⟨bs, 3, none⟩ = some (.string q.who) ∧ (V).cell? ⟨bs, 4, none⟩ = some (.bool q.opn) ∧ (V).cell? ⟨bs, 5, none⟩ = some (.int .u8 q.mode) ∧ (V).cell? ⟨bs, 6, none⟩ = some (.int .u64 q.next)) := by
              rintro F hF U V ⟨h1, h2, h3, h4, h5, h6⟩ hm
              exact ⟨kF F hF _ _ _ _ h1 hm, kF F hF _ _ _ _ h2 hm, kF F hF _ _ _ _ h3 hm, kF F hF _ _ _ _ h4 hm, kF F hF _ _ _ _ h5 hm, kF F hF _ _ _ _ h6 hm⟩
            clear hV hd0 hd1 hd2
            go_wp2
            refine wp_onlyN ?_
            go_region_held_law (fun w' => ((w').cell? ⟨bs, 1, none⟩ = some (.int .u32 x) ∧ (w').cell? ⟨bs, 2, none⟩ = some (.int .u64 q.path) ∧ (w').cell? ⟨bs, 3, none⟩ = some (.string q.who) ∧ (w').cell? ⟨bs, 4, none⟩ = some (.bool q.opn) ∧ (w').cell? ⟨bs, 5, none⟩ = some (.int .u8 q.mode) ∧ (w').cell? ⟨bs, 6, none⟩ = some (.int .u64 q.next))) (first | exact hSk Fr hrl _ _ (hSk Fc hcl _ _ hSd q1) q2 | exact hSk Fc hcl _ _ hSd q1 | exact hS) (first
              | (go_at_call 22; refine hC.mono ?_; rintro e w4 ⟨rfl, g1, q1⟩)
              | (go_at_call 23; refine (hRf _ (HBd.out.r.mod q1 HBd.out.ap)).mono ?_; rintro e w5 ⟨rfl, g2, q2⟩))
            all_goals refine onlyN_out ?_
            have HB5 := Lib.hid (HBd.out.step g1 q1 (Mod.refl _ _) g2 q2 (Grows.refl _ _))
            have p2 := (hSk Fr hrl _ _ (hSk Fc hcl _ _ hSd q1) q2).2.1
            clear hC hRf HBd hS hSd hSk g1 q1 g2 q2 HB2 b0 b1 b2 b3 b4 b5 b6 c0 c1 c2 c3 c4 c5 c6
            obtain ⟨U, hU⟩ : ∃ U, w5 = U := ⟨_, rfl⟩
            obtain ⟨Fr', hFr⟩ : ∃ Fr', Fr = Fr' := ⟨_, rfl⟩
            rw [hU, hFr] at HB5
            rw [hU] at p2 ⊢
            clear hU hFr
            have hl5 : l'.length ≤ k + 1 := (HB5.out).c.le
            have hAll := all_any U Fc bt (k + 1) l' m (HB5.out).c (by omega) (fun _ => sort_none)
            have HB5 := Lib.hid HB5.out
            go_wp2_with fail
            refine hAll.mono ?_
            rintro e U2 ⟨v7, rfl, hv7, m7⟩
            obtain ⟨xa, xc, rfl, hxc, hxx⟩ := hv7.form
            have HB7 := Lib.hid (HB5.out.mod m7)
            have HX := Lib.hid hxx
            have z2 := keepR m7 p2
            clear hAll hv7 hxx m7 HB5 p2
            obtain ⟨vl, hP⟩ := HB7.out.r
            obtain ⟨la, lc, rfl, hlc, hlx⟩ := hP.held.form
            have HL7 := Lib.hid hlx
            have hc0 : U2.cell? ⟨br, 0, none⟩ = some (.slice la l'.length lc) := (cell_of hP.obj 0).trans rfl
            have hOn := on_any U2.drew Fc bt (k + 1) q.path l' m (HB7.out.c.mod (Mod.refl (fun _ => False) U2).drew (fun _ x => x.elim)) (by omega) (fun _ => sort_none)
            have hLn := len_any U2.drew Fc bt (k + 1) l' m (HB7.out.c.mod (Mod.refl (fun _ => False) U2).drew (fun _ x => x.elim))
            have hRn : ∀ V, Mod (fun _ => False) U2.drew V → Calls Try.prog 29 #[.pointer (some ⟨br, 0, none⟩), .int .u64 q.path] V fun e w' => e = .returned (.int .i64 (onS l' q.path)) ∧ w' = V := fun V hV => ron_any V Fr' br q.path l' m ((HB7.out.r.mod (Mod.refl (fun _ => False) U2).drew (fun _ x => x.elim)).mod hV (fun _ x => x.elim)) (by omega)
            clear hP hlx
            go_wp2
            refine wp_onlyN ?_
            go_region_held_law (fun w' => w'.cell? ⟨br, 0, none⟩ = some (.slice la l'.length lc) ∧ w'.cell? ⟨bs, 2, none⟩ = some (.int .u64 q.path)) (first | exact ⟨keepR m8 hc0, keepR m8 z2⟩ | exact ⟨hc0, z2⟩) (first
              | (go_at_call 27; refine hLn.mono ?_; rintro e w8 ⟨rfl, rfl⟩)
              | (go_at_call 28; refine hOn.mono ?_; rintro e w9 ⟨rfl, m8⟩)
              | (go_at_call 29; refine (hRn _ m8).mono ?_; rintro e w10 ⟨rfl, rfl⟩))
            all_goals refine onlyN_out ?_
            have HB9 := Lib.hid (HB7.out.mod ((Mod.refl (fun _ => False) U2).drew.trans m8))
            have HM9 := Lib.hid ((Mod.refl (fun _ => False) U2).drew.trans m8)
            have hc9 := keepR m8 hc0
            clear hOn hLn hRn m8 hc0 z2 HB7
            obtain ⟨U3, hU3⟩ : ∃ U3, w10 = U3 := ⟨_, rfl⟩
            rw [hU3] at HB9 HM9 hc9 ⊢
            clear hU3
            go_wp2
            go_loopw [4, 19] (fun r i wr => ∃ (j : Nat), j ≤ l'.length ∧ r = .bool false ∧ i = .int .i64 j ∧ Hid (Mod (fun _ => False) U3 wr)) (fun _ i _ => l'.length - (intOf i).toNat)
            case atStart => exact ⟨0, Nat.zero_le _, rfl, rfl, Mod.refl _ _⟩
            case round =>
              obtain ⟨j, hj, rfl, rfl, HMj⟩ := hrel
              by_cases hjl : j < l'.length
              · obtain ⟨g1, o1, rfl, _, hg1, hc1⟩ := HX.out j l'[j] (List.getElem?_eq_getElem hjl)
                obtain ⟨g2, o2, rfl, _, hg2, hc2⟩ := HL7.out j l'[j] (List.getElem?_eq_getElem hjl)
                have hm9 := HM9.out.trans HMj.out
                have t7 : decide ((j : Int) < (l'.length : Int)) = true := by simp; omega
                have i1 : (0 : Int) ≤ (j : Int) := by omega
                have i2 : (j : Int) < (l'.length : Int) := by omega
                have i3 : (l'.length : Int) ≤ (xc : Int) := by omega
                have i4 : (l'.length : Int) ≤ (lc : Int) := by omega
                generalize l'[j] = E at *
                have d0 := keepR hm9 (hc1 0 _ rfl)
                have d1 := keepR hm9 (hc1 1 _ rfl)
                have d2 := keepR hm9 (hc1 2 _ rfl)
                have d3 := keepR hm9 (hc1 3 _ rfl)
                have d4 := keepR hm9 (hc1 4 _ rfl)
                have d5 := keepR hm9 (hc1 5 _ rfl)
                have f0 := keepR hm9 (hc2 0 _ rfl)
                have f1 := keepR hm9 (hc2 1 _ rfl)
                have f2 := keepR hm9 (hc2 2 _ rfl)
                have f3 := keepR hm9 (hc2 3 _ rfl)
                have f4 := keepR hm9 (hc2 4 _ rfl)
                have f5 := keepR hm9 (hc2 5 _ rfl)
                rw [Nat.add_zero] at d0 f0
                have hcj := keepR HMj.out hc9
                have hne := neH E
                clear hc1 hc2 hm9 hc9
                go_wp2
                go_quiet (fail)
                go_wp2
                go_roundw
                case rel => exact ⟨j + 1, hjl, rfl, by go_num, Lib.hid (by first | exact HMj.out | exact HMj.out.drewN _ | exact HMj.out.drew)⟩
                case measure => simp [intOf]; omega
              · obtain rfl : j = l'.length := by omega
                have t7 : decide ((l'.length : Int) < (l'.length : Int)) = false := by simp
                have HBz := Lib.hid (HB9.out.mod HMj.out)
                clear HX HL7 HB9 HM9 hc9 HMj
                go_wp2
                go_roundw
                case rel => exact ⟨k + 1, l', Fc, Fr', hlt, rfl, by go_num, HBz⟩
                case measure => simp [intOf]; omega
          · have u5 : (d == 2) = false := by simp [hd2]
            obtain ⟨y, r, hV⟩ : ∃ y r, getS l x = (y, r) := ⟨_, _, rfl⟩
            obtain ⟨l', hl'⟩ : ∃ l', delH l x = l' := ⟨_, rfl⟩
            have hC := drop_any W2 Fc bt k x l m HB2.out.c hao
            have hRf := fun U hU => rdrop_any U Fr br x l m hU hri.out (by omega)
            rw [hV, hl'] at hC hRf
            unfold Fd.v at hC hRf
            have hne := neF y
            clear hV hl' hd0 hd1 hd2
            go_wp2_with fail
            refine hC.mono ?_
            rintro e w4 ⟨rfl, g1, q1⟩
            obtain ⟨Wa, hWa⟩ : ∃ Wa, w4.alloc (.cells #[.int .u64 (y).path, .string (y).who, .bool (y).opn, .int .u8 (y).mode, .int .u64 (y).next] 59) = Wa := ⟨_, rfl⟩
            obtain ⟨ba, hbaE⟩ : ∃ ba, w4.heap.size = ba := ⟨_, rfl⟩
            have hba : Wa.heap[ba]? = some (.cells #[.int .u64 (y).path, .string (y).who, .bool (y).opn, .int .u8 (y).mode, .int .u64 (y).next] 59 (0, 0)) := by rw [← hWa, ← hbaE]; exact new_at _ _
            have ma : Mod (fun _ => False) w4 Wa := by rw [← hWa]; exact (Mod.refl _ _).alloc _
            have y0 : Wa.cell? ⟨ba, 0, none⟩ = some (.int .u64 y.path) := (cell_of hba 0).trans rfl
            have y1 : Wa.cell? ⟨ba, 1, none⟩ = some (.string y.who) := (cell_of hba 1).trans rfl
            have y2 : Wa.cell? ⟨ba, 2, none⟩ = some (.bool y.opn) := (cell_of hba 2).trans rfl
            have y3 : Wa.cell? ⟨ba, 3, none⟩ = some (.int .u8 y.mode) := (cell_of hba 3).trans rfl
            have y4 : Wa.cell? ⟨ba, 4, none⟩ = some (.int .u64 y.next) := (cell_of hba 4).trans rfl
            have HR1 := HB2.out.r.mod q1 HB2.out.ap
            have b1' := keepR ma (kF Fc hcl _ _ _ _ b1 q1)
            have p2' := keepR ma (kF Fc hcl _ _ _ _ b2 q1)
            have hRf' := hRf _ (HR1.mod ma (fun _ x => x.elim))
            have hFba : ∀ k, Fr k → k < ba := fun k hk => by have := hrl k hk; have := q1.size; omega
            go_wp2_with fail
            refine hRf'.mono ?_
            rintro e w5 ⟨rfl, F2, g2, q2, k2⟩
            have q2' := q2
            obtain ⟨U, hU⟩ : ∃ U, w5.alloc (.cells #[.int .u64 (y).path, .string (y).who, .bool (y).opn, .int .u8 (y).mode, .int .u64 (y).next] 59) = U := ⟨_, rfl⟩
            obtain ⟨bb, hbbE⟩ : ∃ bb, w5.heap.size = bb := ⟨_, rfl⟩
            have hbb : U.heap[bb]? = some (.cells #[.int .u64 (y).path, .string (y).who, .bool (y).opn, .int .u8 (y).mode, .int .u64 (y).next] 59 (0, 0)) := by rw [← hU, ← hbbE]; exact new_at _ _
            have mb : Mod (fun _ => False) w5 U := by rw [← hU]; exact (Mod.refl _ _).alloc _
            have z0 : U.cell? ⟨bb, 0, none⟩ = some (.int .u64 y.path) := (cell_of hbb 0).trans rfl
            have z1 : U.cell? ⟨bb, 1, none⟩ = some (.string y.who) := (cell_of hbb 1).trans rfl
            have z2 : U.cell? ⟨bb, 2, none⟩ = some (.bool y.opn) := (cell_of hbb 2).trans rfl
            have z3 : U.cell? ⟨bb, 3, none⟩ = some (.int .u8 y.mode) := (cell_of hbb 3).trans rfl
            have z4 : U.cell? ⟨bb, 4, none⟩ = some (.int .u64 y.next) := (cell_of hbb 4).trans rfl
            have kY : ∀ i v, Wa.cell? ⟨ba, i, none⟩ = some v → U.cell? ⟨ba, i, none⟩ = some v := fun i v h => keepR mb ((fun i v h => (World.cell?_of_block (a := ⟨ba, i, none⟩) (q2.block ba (lt_of_cell h) (fun x => by have := hFba ba x; omega))).trans h) i v h)
            have x0 := kY _ _ y0
            have x1 := kY _ _ y1
            have x2 := kY _ _ y2
            have x3 := kY _ _ y3
            have x4 := kY _ _ y4
            clear kY y0 y1 y2 y3 y4
            have HB5 := Lib.hid (((HB2.out.step g1 q1 ma g2 q2 k2).mod mb).mono (Nat.le_succ k))
            have p2 := keepR mb (kF Fr hrl _ _ _ _ p2' q2)
            obtain ⟨Fr', hFr⟩ : ∃ Fr', F2 = Fr' := ⟨_, rfl⟩
            rw [hFr] at HB5
            clear hC hRf hRf' g1 q1 ma hba HR1 hFba g2 q2 q2' k2 mb hbb HB2 b0 b1 b2 b3 b4 b5 b6 b1' c0 c1 c2 c3 c4 c5 c6 p2' hFr
            have hl5 : l'.length ≤ k + 1 := (HB5.out).c.le
            have hAll := all_any U Fc bt (k + 1) l' m (HB5.out).c (by omega) (fun _ => sort_none)
            have HB5 := Lib.hid HB5.out
            go_wp2_with fail
            refine hAll.mono ?_
            rintro e U2 ⟨v7, rfl, hv7, m7⟩
            obtain ⟨xa, xc, rfl, hxc, hxx⟩ := hv7.form
            have HB7 := Lib.hid (HB5.out.mod m7)
            have HX := Lib.hid hxx
            have z2 := keepR m7 p2
            clear hAll hv7 hxx m7 HB5 p2
            obtain ⟨vl, hP⟩ := HB7.out.r
            obtain ⟨la, lc, rfl, hlc, hlx⟩ := hP.held.form
            have HL7 := Lib.hid hlx
            have hc0 : U2.cell? ⟨br, 0, none⟩ = some (.slice la l'.length lc) := (cell_of hP.obj 0).trans rfl
            have hOn := on_any U2.drew Fc bt (k + 1) q.path l' m (HB7.out.c.mod (Mod.refl (fun _ => False) U2).drew (fun _ x => x.elim)) (by omega) (fun _ => sort_none)
            have hLn := len_any U2.drew Fc bt (k + 1) l' m (HB7.out.c.mod (Mod.refl (fun _ => False) U2).drew (fun _ x => x.elim))
            have hRn : ∀ V, Mod (fun _ => False) U2.drew V → Calls Try.prog 29 #[.pointer (some ⟨br, 0, none⟩), .int .u64 q.path] V fun e w' => e = .returned (.int .i64 (onS l' q.path)) ∧ w' = V := fun V hV => ron_any V Fr' br q.path l' m ((HB7.out.r.mod (Mod.refl (fun _ => False) U2).drew (fun _ x => x.elim)).mod hV (fun _ x => x.elim)) (by omega)
            clear hP hlx
            go_wp2
            refine wp_onlyN ?_
            go_region_held_law (fun w' => w'.cell? ⟨br, 0, none⟩ = some (.slice la l'.length lc) ∧ w'.cell? ⟨bs, 2, none⟩ = some (.int .u64 q.path)) (first | exact ⟨keepR m8 hc0, keepR m8 z2⟩ | exact ⟨hc0, z2⟩) (first
              | (go_at_call 27; refine hLn.mono ?_; rintro e w8 ⟨rfl, rfl⟩)
              | (go_at_call 28; refine hOn.mono ?_; rintro e w9 ⟨rfl, m8⟩)
              | (go_at_call 29; refine (hRn _ m8).mono ?_; rintro e w10 ⟨rfl, rfl⟩))
            all_goals refine onlyN_out ?_
            have HB9 := Lib.hid (HB7.out.mod ((Mod.refl (fun _ => False) U2).drew.trans m8))
            have HM9 := Lib.hid ((Mod.refl (fun _ => False) U2).drew.trans m8)
            have hc9 := keepR m8 hc0
            clear hOn hLn hRn m8 hc0 z2 HB7
            obtain ⟨U3, hU3⟩ : ∃ U3, w10 = U3 := ⟨_, rfl⟩
            rw [hU3] at HB9 HM9 hc9 ⊢
            clear hU3
            go_wp2
            go_loopw [4, 19] (fun r i wr => ∃ (j : Nat), j ≤ l'.length ∧ r = .bool false ∧ i = .int .i64 j ∧ Hid (Mod (fun _ => False) U3 wr)) (fun _ i _ => l'.length - (intOf i).toNat)
            case atStart => exact ⟨0, Nat.zero_le _, rfl, rfl, Mod.refl _ _⟩
            case round =>
              obtain ⟨j, hj, rfl, rfl, HMj⟩ := hrel
              by_cases hjl : j < l'.length
              · obtain ⟨g1, o1, rfl, _, hg1, hc1⟩ := HX.out j l'[j] (List.getElem?_eq_getElem hjl)
                obtain ⟨g2, o2, rfl, _, hg2, hc2⟩ := HL7.out j l'[j] (List.getElem?_eq_getElem hjl)
                have hm9 := HM9.out.trans HMj.out
                have t7 : decide ((j : Int) < (l'.length : Int)) = true := by simp; omega
                have i1 : (0 : Int) ≤ (j : Int) := by omega
                have i2 : (j : Int) < (l'.length : Int) := by omega
                have i3 : (l'.length : Int) ≤ (xc : Int) := by omega
                have i4 : (l'.length : Int) ≤ (lc : Int) := by omega
                generalize l'[j] = E at *
                have d0 := keepR hm9 (hc1 0 _ rfl)
                have d1 := keepR hm9 (hc1 1 _ rfl)
                have d2 := keepR hm9 (hc1 2 _ rfl)
                have d3 := keepR hm9 (hc1 3 _ rfl)
                have d4 := keepR hm9 (hc1 4 _ rfl)
                have d5 := keepR hm9 (hc1 5 _ rfl)
                have f0 := keepR hm9 (hc2 0 _ rfl)
                have f1 := keepR hm9 (hc2 1 _ rfl)
                have f2 := keepR hm9 (hc2 2 _ rfl)
                have f3 := keepR hm9 (hc2 3 _ rfl)
                have f4 := keepR hm9 (hc2 4 _ rfl)
                have f5 := keepR hm9 (hc2 5 _ rfl)
                rw [Nat.add_zero] at d0 f0
                have hcj := keepR HMj.out hc9
                have hne := neH E
                clear hc1 hc2 hm9 hc9
                go_wp2
                go_quiet (fail)
                go_wp2
                go_roundw
                case rel => exact ⟨j + 1, hjl, rfl, by go_num, Lib.hid (by first | exact HMj.out | exact HMj.out.drewN _ | exact HMj.out.drew)⟩
                case measure => simp [intOf]; omega
              · obtain rfl : j = l'.length := by omega
                have t7 : decide ((l'.length : Int) < (l'.length : Int)) = false := by simp
                have HBz := Lib.hid (HB9.out.mod HMj.out)
                clear HX HL7 HB9 HM9 hc9 HMj
                go_wp2
                go_roundw
                case rel => exact ⟨k + 1, l', Fc, Fr', hlt, rfl, by go_num, HBz⟩
                case measure => simp [intOf]; omega
      · obtain rfl : k = s.length := by omega
        have t5 : decide ((s.length : Int) < (s.length : Int)) = false := by simp
        clear HRd HOk HB
        go_wp2_with fail
        refine (hW _).mono ?_
        rintro e w5 ⟨rfl, m5⟩
        go_wp2
        go_ret
        exact ⟨rfl, HBr.out.m.trans m5⟩

set_option maxRecDepth 100000 in
theorem contract (H : Type) (enc : TypeId × Value → H) (W : World) (base : Nat) (args : Array Value) (ds gs : List (DataW H)) (before : List MemPlace)
    (hval : ∀ (j : Nat) t v, Try.f5.params[j]? = some t → args[j]? = some v → Value.okWide Try.prog W .any base t v)
    (hW : DataW.Whole enc Try.prog Try.f5.params.toList Rows.fidsPlaySpec.vars false W args.toList ds gs before) :
    Calls Try.prog 5 args W fun e W' => ∃ v, e = .returned v ∧ Rows.fidsPlaySpec.post enc Try.prog Try.f5 false true false false W args v W' := by
  have hW' := hW
  obtain ⟨p, q, hA0, hV, rfl, hfz, hnd⟩ := hW
  have hA : DataW.TrodAll enc Try.prog W 0 (fun _ => true) true Try.f5.params.toList args.toList ds p := hA0
  rw [Try.params5] at hA hval
  obtain ⟨v0, vs0, d0, ds0, p0, q0, hargs, rfl, rfl, h0, r0⟩ := trodAll_cons hA
  obtain ⟨v1, vs1, d1, ds1, p1, q1, hargs1, rfl, rfl, h1, r1⟩ := trodAll_cons r0
  obtain ⟨rfl, rfl, rfl⟩ := trodAll_nil r1
  obtain rfl : args = #[v0, v1] := by cases args; simp_all
  obtain ⟨rfl, rfl⟩ := trodVars_none hV
  obtain ⟨m, rfl, rfl, rfl, _⟩ := open_int Try.underlying3 (hval 0 3 v0 rfl rfl) h0
  obtain ⟨l, hR, hok⟩ := arg_steps (hval 1 48 v1 rfl rfl) h1
  clear hA0
  simp only [List.append_nil] at hW'
  refine (walk m l v1 W hR hok).mono fun e W' ⟨he, hg⟩ => ?_
  subst he
  exact ⟨_, rfl, law_post hW' hg (by kernel_rfl) rfl rfl rfl rfl rfl⟩
set_option maxRecDepth 100000 in
theorem lifted (os : Os) (started : os.Started) (H : Type) (enc : TypeId × Value → H) :
    ReturnsInHanded {} Try.checked os 5 .any (Rows.fidsPlaySpec.pre6 enc Try.prog Try.f5 Rows.fidsPlayRow.domain false) (Rows.fidsPlaySpec.post enc Try.prog Try.f5 false true false false) := by
  refine returnsInHanded_of_change (C := Try.checked) own_knob started (by kernel_rfl) Try.func5
    (ChangeSpec.witness6 (enc := enc) (C := Try.checked) false ⟨#[], #[.int .i64 0, .slice none 0 0], []⟩ 8 (by kernel_rfl) (by kernel_rfl) (by kernel_rfl) (by kernel_rfl)) ?_
  intro W base args ds gs before hval hW _ _
  exact contract H enc W base args ds gs before hval hW

theorem proved : Rows.FidsPlaySaid :=
  OpenClaim.holds_of_wide 5 Try.f5 rfl rfl rfl rfl rfl rfl rfl ⟨rfl, rfl, rfl, rfl, rfl⟩ rfl rfl rfl rfl rfl (by kernel_rfl) Try.func5 (by kernel_rfl)
    (of_decide_eq_true (by kernel_rfl)) (by unfold Func.isWrapper; first | (rw [if_pos (by decide +kernel)]; kernel_rfl) | (rw [if_neg (by decide +kernel)]; exact ⟨rfl, rfl⟩))
    (fun os started H enc _ => lifted os started H enc)
end Go.Proofs.Ytcadkaedahoefaa.fidsPlay
