/- TagsPlay: for every bound and every script the tags answer as the document says. -/
import Derived.Test.YtcadkaedahoefaaLawAsk
import Derived.Test.YtcadkaedahoefaaRefEnd
import Derived.Test.YtcadkaedahoefaaFidWorks
namespace Go.Proofs.Ytcadkaedahoefaa
open Go.RowKit

/-- what is kept while tags are played -/
structure TInv (s : TS) (k : Nat) : Prop where
  nd : s.l.Nodup
  ll : s.l.length ≤ k
  lw : s.w.length ≤ k
theorem TInv.begin {s s' : TS} {k tag : Nat} {r : Int} (h : TInv s k) (e : beginS s tag = (s', r)) : TInv s' (k + 1) := by
  unfold beginS at e
  have h1 := h.ll
  have h2 := h.lw
  split at e
  · cases e; exact ⟨h.nd, by omega, by omega⟩
  · split at e
    · cases e; exact ⟨h.nd, by omega, by omega⟩
    · split at e
      · cases e; exact ⟨h.nd, by omega, by omega⟩
      · rename_i hn _
        cases e
        have hn := inL_false.1 (Bool.eq_false_iff.2 hn)
        refine ⟨?_, by simp; omega, by show s.w.length ≤ _; omega⟩
        rw [List.nodup_append]
        exact ⟨h.nd, by simp, fun a ha b hb => by rw [List.mem_singleton.1 hb]; exact fun e => hn (e ▸ ha)⟩
theorem TInv.flush {s s' : TS} {k tag old : Nat} {r : Bool × Int} (h : TInv s k) (e : flushS s tag old = (s', r)) : TInv s' (k + 1) := by
  unfold flushS at e
  have h1 := h.ll
  have h2 := h.lw
  split at e
  · cases e; exact ⟨h.nd, by omega, by omega⟩
  · split at e
    · cases e; exact ⟨h.nd, by omega, by omega⟩
    · cases e
      exact ⟨h.nd, by show s.l.length ≤ _; omega, by simp; omega⟩
theorem TInv.fin {s s' : TS} {k tag : Nat} {r : List Nat × Int} (h : TInv s k) (e : endS s tag = (s', r)) : TInv s' (k + 1) := by
  unfold endS at e
  have h1 := h.ll
  have h2 := h.lw
  split at e
  · cases e; exact ⟨h.nd, by omega, by omega⟩
  · cases e
    refine ⟨h.nd.filter _, ?_, ?_⟩
    · have := List.length_filter_le (fun y => decide (y ≠ tag)) s.l
      show (dropL tag s.l).length ≤ _
      unfold dropL
      omega
    · have := List.length_filter_le (fun p => !goneS tag p) s.w
      show (leftS tag s.w).length ≤ _
      unfold leftS
      omega
/-- code's and document's tags side by side -/
structure Both (w W : World) (bc br : Nat) (s : TS) (Fc Fr : Nat → Prop) : Prop where
  c : TagsAt 74 W Fc bc s
  r : TagsAt 42 W Fr br s
  ap : ∀ k, Fc k → ¬ Fr k
  cb : ∀ k, Fc k → w.heap.size ≤ k
  rb : ∀ k, Fr k → w.heap.size ≤ k
  m : Mod (fun _ => False) w W
theorem Both.mod {w W W' : World} {bc br : Nat} {s : TS} {Fc Fr : Nat → Prop} (h : Both w W bc br s Fc Fr) (hm : Mod (fun _ => False) W W') : Both w W' bc br s Fc Fr :=
  ⟨h.c.mod hm (fun _ x => x.elim), h.r.mod hm (fun _ x => x.elim), h.ap, h.cb, h.rb, h.m.trans hm⟩
theorem Both.step {w W W4 W5 : World} {bc br : Nat} {s s' : TS} {Fc Fr F1 F2 : Nat → Prop} (h : Both w W bc br s Fc Fr) (g1 : TagsAt 74 W4 F1 bc s') (q1 : Mod Fc W W4) (k1 : Grows W Fc F1)
    (g2 : TagsAt 42 W5 F2 br s') (q2 : Mod Fr W4 W5) (k2 : Grows W4 Fr F2) : Both w W5 bc br s' F1 F2 := by
  have a1 : ∀ k, F1 k → ¬ Fr k := k1.apart h.ap h.r.lt
  have hs := h.m.size
  refine ⟨g1.mod q2 (fun k hk hf => a1 k hf hk), g2, fun k hk h2 => ?_, k1.above h.cb hs, k2.above h.rb (by have := q1.size; omega), ?_⟩
  · rcases k2 k h2 with x | x
    · exact a1 k hk x
    · have := g1.lt k hk; omega
  · exact (h.m.trans' q1 fun k hk x => by have := h.cb k x; omega).trans' q2 fun k hk x => by have := h.rb k x; omega
end Go.Proofs.Ytcadkaedahoefaa
namespace Go.Proofs.Ytcadkaedahoefaa.tagsPlay
open Go.ChangeShapes Go.WideShapes Go.ChangeAt Go.RowKit

set_option maxRecDepth 100000 in
set_option maxHeartbeats 8000000 in
theorem walk (m : Int) (l : List Ask) (v : Value) (w : World) (hR : Reads Ask.cells 3 w v l) (hok : ∀ s ∈ l, s.tag < 65536 ∧ s.old < 65536) :
    Calls Try.prog 4 #[.int .i64 m, v] w fun e w' => e = .returned (.bool true) ∧ Mod (fun _ => False) w w' := by
  have hW := works_any
  obtain ⟨a, cap, rfl, hlm, hrd⟩ := hR
  unfold maxLen at hlm
  by_cases h300 : 300 < l.length
  · have t1 : decide (300 < (l.length : Int)) = true := by simp; omega
    clear hrd hok
    go_enter Try.func4, Try.ntmps4
    go_wp2_with fail
    refine (hW _).mono ?_
    rintro e w2 ⟨rfl, m2⟩
    go_wp2
    go_ret
    exact ⟨rfl, m2⟩
  have t1 : decide (300 < (l.length : Int)) = false := by simp; omega
  have hN := newtags_any m w
  cases hbm : badMost m with
  | true =>
    have hb2 := hbm
    unfold badMost at hb2
    rw [hbm] at hN
    clear hrd hok
    by_cases h1 : m < 1
    · have u1 : decide (m < 1) = true := by simp [h1]
      clear hb2
      go_enter Try.func4, Try.ntmps4
      go_wp2_with fail
      refine hN.mono ?_
      rintro e w1 ⟨hx, _⟩
      obtain ⟨rfl, rfl⟩ := hx (by first | rfl | trivial)
      clear hN
      go_wp2_with fail
      refine (hW _).mono ?_
      rintro e w2 ⟨rfl, m2⟩
      go_wp2
      go_ret
      exact ⟨rfl, m2⟩
    · have u1 : decide (m < 1) = false := by simp; omega
      have u2 : decide (32 < m) = true := by rw [u1] at hb2; exact hb2
      clear hb2
      go_enter Try.func4, Try.ntmps4
      go_wp2_with fail
      refine hN.mono ?_
      rintro e w1 ⟨hx, _⟩
      obtain ⟨rfl, rfl⟩ := hx (by first | rfl | trivial)
      clear hN
      go_wp2_with fail
      refine (hW _).mono ?_
      rintro e w2 ⟨rfl, m2⟩
      go_wp2
      go_ret
      exact ⟨rfl, m2⟩
  | false =>
    have hb2 := hbm
    unfold badMost at hb2
    rw [Bool.or_eq_false_iff] at hb2
    obtain ⟨u1, u2⟩ := hb2
    rw [hbm] at hN
    have HRd := Lib.hid hrd
    have HOk := Lib.hid hok
    clear hrd hok
    have tt : ∀ x : Int, (x != x) = false := fun x => by simp
    have tb : ∀ x : Bool, (x != x) = false := fun x => by simp
    go_enter Try.func4, Try.ntmps4
    go_wp2_with fail
    refine hN.mono ?_
    rintro e w1 ⟨_, hx⟩
    obtain ⟨rfl, hw1⟩ := hx (by first | rfl | trivial)
    obtain ⟨w2, hw2⟩ : ∃ w2, w1.alloc (.cells #[.slice none 0 0, .slice none 0 0, .int .i64 m] 42) = w2 := ⟨_, rfl⟩
    have hs1 : w1.heap.size = w.heap.size + 1 := by rw [hw1]; simp
    have HB : Hid (Both w w2 w.heap.size (w.heap.size + 1) ⟨[], [], m⟩ (· = w.heap.size) (· = w.heap.size + 1)) := by
      have hc : TagsAt 74 w1 (· = w.heap.size) w.heap.size ⟨[], [], m⟩ := by rw [hw1]; exact ⟨_, _, TagsP.made w m⟩
      have hr : TagsAt 42 w2 (· = w1.heap.size) w1.heap.size ⟨[], [], m⟩ := by rw [← hw2]; exact ⟨_, _, TagsP.made w1 m⟩
      rw [hs1] at hr
      have ma : Mod (fun _ => False) w1 w2 := by rw [← hw2]; exact (Mod.refl _ _).alloc _
      have mb : Mod (fun _ => False) w w1 := by rw [hw1]; exact (Mod.refl _ _).alloc _
      exact ⟨hc.mod ma (fun _ x => x.elim), hr, fun k h1 h2 => by omega, fun k h => by omega, fun k h => by omega, mb.trans ma⟩
    have HK : TInv ⟨[], [], m⟩ 0 := ⟨List.nodup_nil, Nat.le_refl _, Nat.le_refl _⟩
    clear hN hx hw1
    go_wp2
    go_loopw [4, 8] (fun r i wr => ∃ (k : Nat) (s : TS) (Fc Fr : Nat → Prop), k ≤ l.length ∧ r = .bool false ∧ i = .int .i64 k ∧ Hid (Both w wr w.heap.size (w.heap.size + 1) s Fc Fr) ∧ TInv s k) (fun _ i _ => l.length - (intOf i).toNat)
    case atStart => exact ⟨0, _, _, _, by omega, rfl, rfl, HB, HK⟩
    case round =>
      obtain ⟨k, s, Fc, Fr, hk, rfl, rfl, HBr, hK⟩ := hrel
      by_cases hlt : k < l.length
      · obtain ⟨g, off, rfl, hg, hc⟩ := HRd.out k hlt
        have hao := HOk.out l[k] (List.getElem_mem hlt)
        have t5 : decide ((k : Int) < (l.length : Int)) = true := by simp; omega
        have j1 : (0 : Int) ≤ (k : Int) := by omega
        have j2 : (k : Int) < (l.length : Int) := by omega
        have c0 := keepR HBr.out.m (hc 0 _ rfl)
        have c1 := keepR HBr.out.m (hc 1 _ rfl)
        have c2 := keepR HBr.out.m (hc 2 _ rfl)
        rw [Nat.add_zero] at c0
        generalize l[k] = A at *
        obtain ⟨d, tag, old⟩ := A
        simp only at c0 c1 c2 hao
        obtain ⟨W2, hW2⟩ : ∃ W2, wr.alloc (.cells #[.int .i64 d, .int .u16 tag, .int .u16 old] 44) = W2 := ⟨_, rfl⟩
        have hBx : W2.heap[wr.heap.size]? = some (.cells #[.int .i64 d, .int .u16 tag, .int .u16 old] 44 (0, 0)) := by subst hW2; exact new_at _ _
        have m2 : Mod (fun _ => False) wr W2 := by subst hW2; exact (Mod.refl _ _).alloc _
        obtain ⟨bs, hbs⟩ : ∃ bs, wr.heap.size = bs := ⟨_, rfl⟩
        have hcl : ∀ k, Fc k → k < bs := fun k hk => by rw [← hbs]; exact HBr.out.c.lt k hk
        have hrl : ∀ k, Fr k → k < bs := fun k hk => by rw [← hbs]; exact HBr.out.r.lt k hk
        rw [hbs] at hBx
        have b0 : W2.cell? ⟨bs, 0, none⟩ = some (.int .i64 d) := (cell_of hBx 0).trans rfl
        have b1 : W2.cell? ⟨bs, 1, none⟩ = some (.int .u16 tag) := (cell_of hBx 1).trans rfl
        have b2 : W2.cell? ⟨bs, 2, none⟩ = some (.int .u16 old) := (cell_of hBx 2).trans rfl
        have HB2 := Lib.hid (HBr.out.mod m2)
        clear hc m2 HBr HRd HOk hw2 hg
        by_cases hd0 : d = 0
        · have u3 : (d == 0) = true := by simp [hd0]
          obtain ⟨s', r, hV⟩ : ∃ s' r, beginS s tag = (s', r) := ⟨_, _, rfl⟩
          have hK2 := hK.begin hV
          have hC := begin_any W2.drew Fc w.heap.size tag s (HB2.out.c.mod (Mod.refl (fun _ => False) W2).drew (fun _ x => x.elim)) (by have := hK.ll; omega)
          have hRf := fun U hU => rbegin_any U Fr (w.heap.size + 1) tag s hU (by have := hK.ll; omega)
          rw [hV] at hC hRf
          have HBd := Lib.hid (HB2.out.mod (Mod.refl (fun _ => False) W2).drew)
          have b1d : W2.drew.cell? ⟨bs, 1, none⟩ = some (.int .u16 tag) := b1
          have kc : ∀ U V, U.cell? ⟨bs, 1, none⟩ = some (.int .u16 tag) → Mod Fc U V → V.cell? ⟨bs, 1, none⟩ = some (.int .u16 tag) := fun U V h hm => (World.cell?_of_block (a := ⟨bs, 1, none⟩) (hm.block bs (lt_of_cell h) (fun x => by have := hcl bs x; omega))).trans h
          have kr : ∀ U V, U.cell? ⟨bs, 1, none⟩ = some (.int .u16 tag) → Mod Fr U V → V.cell? ⟨bs, 1, none⟩ = some (.int .u16 tag) := fun U V h hm => (World.cell?_of_block (a := ⟨bs, 1, none⟩) (hm.block bs (lt_of_cell h) (fun x => by have := hrl bs x; omega))).trans h
          clear hV hd0
          go_wp2
          refine wp_onlyN ?_
          go_region_held_law (fun w' => w'.cell? ⟨bs, 1, none⟩ = some (.int .u16 tag)) (first | exact kr _ _ (kc _ _ b1d q1) q2 | exact kc _ _ b1d q1 | exact b1) (first
            | (go_at_call 9; refine hC.mono ?_; rintro e w4 ⟨rfl, F1, g1, q1, k1⟩)
            | (go_at_call 12; refine (hRf _ (HBd.out.r.mod q1 HBd.out.ap)).mono ?_; rintro e w5 ⟨rfl, F2, g2, q2, k2⟩))
          all_goals refine onlyN_out ?_
          have HB5 := Lib.hid (HBd.out.step g1 q1 k1 g2 q2 k2)
          clear hC hRf HBd b1d kc kr g1 q1 k1 g2 q2 k2 HB2 b0 b1 b2 c0 c1 c2
          obtain ⟨U, hU⟩ : ∃ U, w5 = U := ⟨_, rfl⟩
          rw [hU] at HB5 ⊢
          clear hU
          go_wp2
          obtain ⟨vl, vw, hP⟩ := (HB5.out).r
          obtain ⟨la, lc, rfl, _⟩ := hP.ol.form
          have hSr : SlAt _ (fun _ => True) _ _ := hP.ol.slAt.imp fun _ _ => trivial
          have hc0 : U.cell? ⟨w.heap.size + 1, 0, none⟩ = some (.slice la s'.l.length lc) := (cell_of hP.obj 0).trans rfl
          have hOp := open_any U.drew F1 w.heap.size s' ((HB5.out).c.mod (Mod.refl (fun _ => False) U).drew (fun _ x => x.elim)) (by have := hK2.ll; omega)
          have HSr := Lib.hid hSr
          have HB5 := Lib.hid HB5.out
          have hl5 : s'.l.length ≤ 140737488355328 := by have := hK2.ll; omega
          clear hP hSr
          refine wp_onlyN ?_
          go_region_held_law (fun w' => w'.cell? ⟨w.heap.size + 1, 0, none⟩ = some (.slice la s'.l.length lc)) (first | exact keepR m8 (keepR m7 hc0) | exact keepR m7 hc0 | exact hc0) (first
            | (go_at_call 16; refine hOp.mono ?_; rintro e w7 ⟨v7, rfl, hv7, m7⟩)
            | (go_at_call 14; refine (same_any v7 _ _ _ s'.l _ hv7 (HSr.out.mod (((Mod.refl (fun _ => False) U).drew).trans m7) (fun _ _ _ x => x)) hl5).mono ?_; rintro e w8 ⟨rfl, m8⟩))
          all_goals refine onlyN_out ?_
          have HB8 := Lib.hid (HB5.out.mod ((((Mod.refl (fun _ => False) U).drew).trans m7).trans m8))
          clear hv7 m7 m8 hOp HSr HB5
          go_wp2
          go_roundw
          case rel => exact ⟨k + 1, s', F1, F2, hlt, rfl, by go_num, HB8, hK2⟩
          case measure => simp [intOf]; omega
        · have u3 : (d == 0) = false := by simp [hd0]
          have kc : ∀ i v U V, U.cell? ⟨bs, i, none⟩ = some v → Mod Fc U V → V.cell? ⟨bs, i, none⟩ = some v := fun i v U V h hm => (World.cell?_of_block (a := ⟨bs, i, none⟩) (hm.block bs (lt_of_cell h) (fun x => by have := hcl bs x; omega))).trans h
          have hbsl := lt_of hBx
          by_cases hd1 : d = 1
          · have u4 : (d == 1) = true := by simp [hd1]
            obtain ⟨s', lt_, r, hV⟩ : ∃ s' lt_ r, endS s tag = (s', lt_, r) := ⟨_, _, _, rfl⟩
            have hK2 := hK.fin hV
            have hll : lt_.length ≤ 140737488355328 := by
              have h1 : lt_ = (endS s tag).2.1 := by rw [hV]
              rw [h1]
              unfold endS
              split
              · simp
              · have := List.length_filter_le (toldS tag) s.w
                show ((s.w.filter (toldS tag)).map Prod.fst).length ≤ _
                rw [List.length_map]
                have := hK.lw
                omega
            have hC := end_any W2 Fc w.heap.size tag s HB2.out.c (by have := hK.ll; omega) (by have := hK.lw; omega)
            have hRf := fun U hU => rend_any U Fr (w.heap.size + 1) tag s hU (by have := hK.ll; omega) (by have := hK.lw; omega) hK.nd
            rw [hV] at hC hRf
            clear hV hd0 hd1
            go_wp2_with fail
            refine hC.mono ?_
            rintro e w4 ⟨v4, rfl, hv4, F1, g1, q1, k1⟩
            have b1' := kc _ _ _ _ b1 q1
            have hRf' := hRf _ (HB2.out.r.mod q1 HB2.out.ap)
            go_wp2_with fail
            refine hRf'.mono ?_
            rintro e w5 ⟨v5, rfl, hv5, F2, g2, q2, k2⟩
            have hSm := same_any v4 v5 _ _ lt_ w5 (hv4.mod q2 (fun g h1 _ h2 => by have := hrl g h2; omega)) hv5 hll
            have HB5 := Lib.hid (HB2.out.step g1 q1 k1 g2 q2 k2)
            clear hC hRf hRf' kc hv4 hv5 g1 q1 k1 g2 q2 k2 HB2 b0 b1 b2 b1' c0 c1 c2
            go_wp2_with fail
            refine hSm.mono ?_
            rintro e U ⟨rfl, m6⟩
            have HB6 := Lib.hid (HB5.out.mod m6)
            clear HB5 m6 hSm
            go_wp2
            obtain ⟨vl, vw, hP⟩ := (HB6.out).r
            obtain ⟨la, lc, rfl, _⟩ := hP.ol.form
            have hSr : SlAt _ (fun _ => True) _ _ := hP.ol.slAt.imp fun _ _ => trivial
            have hc0 : U.cell? ⟨w.heap.size + 1, 0, none⟩ = some (.slice la s'.l.length lc) := (cell_of hP.obj 0).trans rfl
            have hOp := open_any U.drew F1 w.heap.size s' ((HB6.out).c.mod (Mod.refl (fun _ => False) U).drew (fun _ x => x.elim)) (by have := hK2.ll; omega)
            have HSr := Lib.hid hSr
            have HB5 := Lib.hid HB6.out
            have hl5 : s'.l.length ≤ 140737488355328 := by have := hK2.ll; omega
            clear hP hSr
            refine wp_onlyN ?_
            go_region_held_law (fun w' => w'.cell? ⟨w.heap.size + 1, 0, none⟩ = some (.slice la s'.l.length lc)) (first | exact keepR m8 (keepR m7 hc0) | exact keepR m7 hc0 | exact hc0) (first
              | (go_at_call 16; refine hOp.mono ?_; rintro e w7 ⟨v7, rfl, hv7, m7⟩)
              | (go_at_call 14; refine (same_any v7 _ _ _ s'.l _ hv7 (HSr.out.mod (((Mod.refl (fun _ => False) U).drew).trans m7) (fun _ _ _ x => x)) hl5).mono ?_; rintro e w8 ⟨rfl, m8⟩))
            all_goals refine onlyN_out ?_
            have HB8 := Lib.hid (HB5.out.mod ((((Mod.refl (fun _ => False) U).drew).trans m7).trans m8))
            clear hv7 m7 m8 hOp HSr HB5
            go_wp2
            go_roundw
            case rel => exact ⟨k + 1, s', F1, F2, hlt, rfl, by go_num, HB8, hK2⟩
            case measure => simp [intOf]; omega
          · have u4 : (d == 1) = false := by simp [hd1]
            obtain ⟨s', rb, r, hV⟩ : ∃ s' rb r, flushS s tag old = (s', rb, r) := ⟨_, _, _, rfl⟩
            have hK2 := hK.flush hV
            have hC := flush_any W2 Fc w.heap.size tag old s HB2.out.c (by have := hK.ll; omega) (by have := hK.lw; omega)
            have hRf := fun U hU => rflush_any U Fr (w.heap.size + 1) tag old s hU (by have := hK.ll; omega) (by have := hK.lw; omega)
            rw [hV] at hC hRf
            clear hV hd0 hd1
            go_wp2_with fail
            refine hC.mono ?_
            rintro e w4 ⟨rfl, F1, g1, q1, k1⟩
            have b1' := kc _ _ _ _ b1 q1
            have b2' := kc _ _ _ _ b2 q1
            have hRf' := hRf _ (HB2.out.r.mod q1 HB2.out.ap)
            go_wp2_with fail
            refine hRf'.mono ?_
            rintro e U ⟨rfl, F2, g2, q2, k2⟩
            have HB6 := Lib.hid (HB2.out.step g1 q1 k1 g2 q2 k2)
            clear hC hRf hRf' kc g1 q1 k1 g2 q2 k2 HB2 b0 b1 b2 b1' b2' c0 c1 c2
            go_wp2
            obtain ⟨vl, vw, hP⟩ := (HB6.out).r
            obtain ⟨la, lc, rfl, _⟩ := hP.ol.form
            have hSr : SlAt _ (fun _ => True) _ _ := hP.ol.slAt.imp fun _ _ => trivial
            have hc0 : U.cell? ⟨w.heap.size + 1, 0, none⟩ = some (.slice la s'.l.length lc) := (cell_of hP.obj 0).trans rfl
            have hOp := open_any U.drew F1 w.heap.size s' ((HB6.out).c.mod (Mod.refl (fun _ => False) U).drew (fun _ x => x.elim)) (by have := hK2.ll; omega)
            have HSr := Lib.hid hSr
            have HB5 := Lib.hid HB6.out
            have hl5 : s'.l.length ≤ 140737488355328 := by have := hK2.ll; omega
            clear hP hSr
            refine wp_onlyN ?_
            go_region_held_law (fun w' => w'.cell? ⟨w.heap.size + 1, 0, none⟩ = some (.slice la s'.l.length lc)) (first | exact keepR m8 (keepR m7 hc0) | exact keepR m7 hc0 | exact hc0) (first
              | (go_at_call 16; refine hOp.mono ?_; rintro e w7 ⟨v7, rfl, hv7, m7⟩)
              | (go_at_call 14; refine (same_any v7 _ _ _ s'.l _ hv7 (HSr.out.mod (((Mod.refl (fun _ => False) U).drew).trans m7) (fun _ _ _ x => x)) hl5).mono ?_; rintro e w8 ⟨rfl, m8⟩))
            all_goals refine onlyN_out ?_
            have HB8 := Lib.hid (HB5.out.mod ((((Mod.refl (fun _ => False) U).drew).trans m7).trans m8))
            clear hv7 m7 m8 hOp HSr HB5
            go_wp2
            go_roundw
            case rel => exact ⟨k + 1, s', F1, F2, hlt, rfl, by go_num, HB8, hK2⟩
            case measure => simp [intOf]; omega
      · obtain rfl : k = l.length := by omega
        have t5 : decide ((l.length : Int) < (l.length : Int)) = false := by simp
        clear HRd HOk
        go_wp2_with fail
        refine (hW _).mono ?_
        rintro e w5 ⟨rfl, m5⟩
        go_wp2
        go_ret
        exact ⟨rfl, HBr.out.m.trans m5⟩

set_option maxRecDepth 100000 in
theorem contract (H : Type) (enc : TypeId × Value → H) (W : World) (base : Nat) (args : Array Value) (ds gs : List (DataW H)) (before : List MemPlace)
    (hval : ∀ (j : Nat) t v, Try.f4.params[j]? = some t → args[j]? = some v → Value.okWide Try.prog W .any base t v)
    (hW : DataW.Whole enc Try.prog Try.f4.params.toList Rows.tagsPlaySpec.vars false W args.toList ds gs before) :
    Calls Try.prog 4 args W fun e W' => ∃ v, e = .returned v ∧ Rows.tagsPlaySpec.post enc Try.prog Try.f4 false true false false W args v W' := by
  have hW' := hW
  obtain ⟨p, q, hA0, hV, rfl, hfz, hnd⟩ := hW
  have hA : DataW.TrodAll enc Try.prog W 0 (fun _ => true) true Try.f4.params.toList args.toList ds p := hA0
  rw [Try.params4] at hA hval
  obtain ⟨v0, vs0, d0, ds0, p0, q0, hargs, rfl, rfl, h0, r0⟩ := trodAll_cons hA
  obtain ⟨v1, vs1, d1, ds1, p1, q1, hargs1, rfl, rfl, h1, r1⟩ := trodAll_cons r0
  obtain ⟨rfl, rfl, rfl⟩ := trodAll_nil r1
  obtain rfl : args = #[v0, v1] := by cases args; simp_all
  obtain ⟨rfl, rfl⟩ := trodVars_none hV
  obtain ⟨m, rfl, rfl, rfl, _⟩ := open_int Try.underlying3 (hval 0 3 v0 rfl rfl) h0
  obtain ⟨l, hR, hok⟩ := arg_asks (hval 1 38 v1 rfl rfl) h1
  clear hA0
  simp only [List.append_nil] at hW'
  refine (walk m l v1 W hR hok).mono fun e W' ⟨he, hg⟩ => ?_
  subst he
  exact ⟨_, rfl, law_post hW' hg (by kernel_rfl) rfl rfl rfl rfl rfl⟩
set_option maxRecDepth 100000 in
theorem lifted (os : Os) (started : os.Started) (H : Type) (enc : TypeId × Value → H) :
    ReturnsInHanded {} Try.checked os 4 .any (Rows.tagsPlaySpec.pre6 enc Try.prog Try.f4 Rows.tagsPlayRow.domain false) (Rows.tagsPlaySpec.post enc Try.prog Try.f4 false true false false) := by
  refine returnsInHanded_of_change (C := Try.checked) own_knob started (by kernel_rfl) Try.func4
    (ChangeSpec.witness6 (enc := enc) (C := Try.checked) false ⟨#[], #[.int .i64 0, .slice none 0 0], []⟩ 8 (by kernel_rfl) (by kernel_rfl) (by kernel_rfl) (by kernel_rfl)) ?_
  intro W base args ds gs before hval hW _ _
  exact contract H enc W base args ds gs before hval hW

theorem proved : Rows.TagsPlaySaid :=
  OpenClaim.holds_of_wide 4 Try.f4 rfl rfl rfl rfl rfl rfl rfl ⟨rfl, rfl, rfl, rfl, rfl⟩ rfl rfl rfl rfl rfl (by kernel_rfl) Try.func4 (by kernel_rfl)
    (of_decide_eq_true (by kernel_rfl)) (by unfold Func.isWrapper; first | (rw [if_pos (by decide +kernel)]; kernel_rfl) | (rw [if_neg (by decide +kernel)]; exact ⟨rfl, rfl⟩))
    (fun os started H enc _ => lifted os started H enc)
end Go.Proofs.Ytcadkaedahoefaa.tagsPlay
