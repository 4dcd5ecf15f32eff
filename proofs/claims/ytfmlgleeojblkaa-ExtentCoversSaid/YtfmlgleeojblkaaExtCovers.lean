/-
  PROVED HERE: for all extents x and ints off, n the law ExtentCovers returns true: the pieces of a range are just its bytes, each once, in order, within the extent. No conditions.
-/
import Derived.Test.YtfmlgleeojblkaaLawExt
import Derived.Test.YtfmlgleeojblkaaExtAlive
import Derived.Test.YtfmlgleeojblkaaExtSame
namespace Go.Proofs.Ytfmlgleeojblkaa.extentCovers
open Go.ChangeShapes Go.WideShapes Go.ChangeAt Go.RowKit Go.Shelf
attribute [local go_sem] Oper.semAt_some

theorem shl_nblk (X c : Int) (hX : 0 ≤ X ∧ X ≤ 16384) (hn : nblk c ≠ 0) : wrap64 (X + wrap64 (2 ^ min (IntKind.u64.wrap (bits BinOp.and IntKind.i64 c 7)).toNat 64)) = X + (nblk c : Int) := by
  rcases nblk_cases c with ⟨_, h⟩ | ⟨rfl, h⟩ | ⟨rfl, h⟩ | ⟨rfl, h⟩ | ⟨rfl, h⟩ | ⟨rfl, h⟩
  · exact absurd h hn
  · rw [h, show wrap64 (2 ^ min (IntKind.u64.wrap (bits BinOp.and IntKind.i64 0 7)).toNat 64) = 1 from by decide +kernel]; unfold wrap64; omega
  · rw [h, show wrap64 (2 ^ min (IntKind.u64.wrap (bits BinOp.and IntKind.i64 1 7)).toNat 64) = 2 from by decide +kernel]; unfold wrap64; omega
  · rw [h, show wrap64 (2 ^ min (IntKind.u64.wrap (bits BinOp.and IntKind.i64 2 7)).toNat 64) = 4 from by decide +kernel]; unfold wrap64; omega
  · rw [h, show wrap64 (2 ^ min (IntKind.u64.wrap (bits BinOp.and IntKind.i64 3 7)).toNat 64) = 8 from by decide +kernel]; unfold wrap64; omega
  · rw [h, show wrap64 (2 ^ min (IntKind.u64.wrap (bits BinOp.and IntKind.i64 4 7)).toNat 64) = 16 from by decide +kernel]; unfold wrap64; omega

set_option maxRecDepth 100000 in
set_option maxHeartbeats 4000000 in
theorem walk (X c off n : Int) (hX : I64 X) (hc : I64 c) (w : World) : Calls Try.prog 4 #[.agg #[.int .i64 X, .int .i64 c], .int .i64 off, .int .i64 n] w fun e w' => e = .returned (.bool true) ∧ Mod (fun _ => False) w w' := by
  have fnil := func_nil
  obtain ⟨W0, hW0⟩ : ∃ W0, (((w.alloc (.cells #[.int .i64 X, .int .i64 c] 23)).alloc (.cells #[.int .i64 X, .int .i64 c] 23)).alloc (.cells #[.int .i64 off] 3)).alloc (.cells #[.int .i64 n] 3) = W0 := ⟨_, rfl⟩
  have hm0 : Mod (fun _ => False) w W0 := by subst hW0; exact ((((Mod.refl _ w).alloc _).alloc _).alloc _).alloc _
  have bx0 : W0.heap[w.heap.size]? = some (.cells #[.int .i64 X, .int .i64 c] 23 (0, 0)) := by
    subst hW0; exact alloc_keep (alloc_keep (alloc_keep (new_at _ _)))
  have x0 : W0.cell? ⟨w.heap.size, 0, none⟩ = some (.int .i64 X) := (cell_of bx0 0).trans rfl
  have x1 : W0.cell? ⟨w.heap.size, 1, none⟩ = some (.int .i64 c) := (cell_of bx0 1).trans rfl
  obtain ⟨R, hR⟩ : ∃ R, 448 * nblk c = R := ⟨_, rfl⟩
  have hRm : R ≤ 7168 := by have := nblk_le c; omega
  have hroom := fun W => room_any c W
  rw [hR] at hroom
  have hmayc := fun W => may_any X c W hX hc
  have hcol := fun W => collect_any X c off n hX hc W
  go_enter Try.func4, Try.ntmps4
  go_wp2_with fail
  refine (Pieces_any X c off n _).mono ?_
  rintro e w' ⟨rfl, rfl⟩
  rw [hW0]
  go_wp2_with fail
  refine (hroom _).mono ?_
  rintro e W1 ⟨rfl, rfl⟩
  go_wp2_with fail
  refine (hmayc _).mono ?_
  rintro e W2 ⟨rfl, m2⟩
  have bx2 := Lib.hid ((m2.block _ (lt_of bx0) (fun x => x)).trans bx0)
  have hM2 := Lib.hid (hm0.trans m2)
  clear hW0 hm0 bx0 x0 x1 hroom hmayc m2
  have x0 : W2.cell? ⟨w.heap.size, 0, none⟩ = some (.int .i64 X) := (cell_of bx2.out 0).trans rfl
  have x1 : W2.cell? ⟨w.heap.size, 1, none⟩ = some (.int .i64 c) := (cell_of bx2.out 1).trans rfl
  have hok : okR X c off n = (mayB X c && decide (0 ≤ off) && decide (0 ≤ n) && decide (n ≤ (R : Int)) && decide (off ≤ (R : Int) - n)) := by rw [← hR]; rfl
  cases hmb : mayB X c with
  | false =>
    have hNil : piecesT X c off n = [] := by unfold piecesT; rw [if_neg (by rw [hok, hmb]; simp)]
    have hcol2 := hcol W2
    rw [hNil] at hcol2
    go_wp2_with fail
    refine hcol2.mono ?_
    rintro e W3 ⟨v, rfl, hrow, m3⟩
    obtain ⟨la, lcap, rfl, hcl⟩ := PRow.of_owns hrow
    go_wp2_with fail
    refine (alive_any W3).mono ?_
    rintro e W4 ⟨rfl, m4⟩
    go_wp2
    go_ret
    exact ⟨rfl, ((hM2.out.trans m3).trans m4)⟩
  | true =>
    by_cases g1 : off < 0
    · have hNil : piecesT X c off n = [] := by unfold piecesT; rw [if_neg (by rw [hok]; simp; omega)]
      have t1 : decide (off < 0) = true := by simp [g1]
      have hcol2 := hcol W2
      rw [hNil] at hcol2
      go_wp2_with fail
      refine hcol2.mono ?_
      rintro e W3 ⟨v, rfl, hrow, m3⟩
      obtain ⟨la, lcap, rfl, hcl⟩ := PRow.of_owns hrow
      go_wp2_with fail
      refine (alive_any W3).mono ?_
      rintro e W4 ⟨rfl, m4⟩
      go_wp2
      go_ret
      exact ⟨rfl, ((hM2.out.trans m3).trans m4)⟩
    have t1 : decide (off < 0) = false := by simp; omega
    by_cases g2 : n < 0
    · have hNil : piecesT X c off n = [] := by unfold piecesT; rw [if_neg (by rw [hok]; simp; omega)]
      have t2 : decide (n < 0) = true := by simp [g2]
      have hcol2 := hcol W2
      rw [hNil] at hcol2
      go_wp2_with fail
      refine hcol2.mono ?_
      rintro e W3 ⟨v, rfl, hrow, m3⟩
      obtain ⟨la, lcap, rfl, hcl⟩ := PRow.of_owns hrow
      go_wp2_with fail
      refine (alive_any W3).mono ?_
      rintro e W4 ⟨rfl, m4⟩
      go_wp2
      go_ret
      exact ⟨rfl, ((hM2.out.trans m3).trans m4)⟩
    have t2 : decide (n < 0) = false := by simp; omega
    by_cases g3 : (R : Int) < n
    · have hNil : piecesT X c off n = [] := by unfold piecesT; rw [if_neg (by rw [hok]; simp; omega)]
      have t3 : decide ((R : Int) < n) = true := by simp [g3]
      have hcol2 := hcol W2
      rw [hNil] at hcol2
      go_wp2_with fail
      refine hcol2.mono ?_
      rintro e W3 ⟨v, rfl, hrow, m3⟩
      obtain ⟨la, lcap, rfl, hcl⟩ := PRow.of_owns hrow
      go_wp2_with fail
      refine (alive_any W3).mono ?_
      rintro e W4 ⟨rfl, m4⟩
      go_wp2
      go_ret
      exact ⟨rfl, ((hM2.out.trans m3).trans m4)⟩
    have t3 : decide ((R : Int) < n) = false := by simp; omega
    by_cases g4 : (R : Int) - n < off
    · have hNil : piecesT X c off n = [] := by unfold piecesT; rw [if_neg (by rw [hok]; simp; omega)]
      have t4 : decide ((R : Int) - n < off) = true := by simp [g4]
      have hcol2 := hcol W2
      rw [hNil] at hcol2
      go_wp2_with fail
      refine hcol2.mono ?_
      rintro e W3 ⟨v, rfl, hrow, m3⟩
      obtain ⟨la, lcap, rfl, hcl⟩ := PRow.of_owns hrow
      go_wp2_with fail
      refine (alive_any W3).mono ?_
      rintro e W4 ⟨rfl, m4⟩
      go_wp2
      go_ret
      exact ⟨rfl, ((hM2.out.trans m3).trans m4)⟩
    have t4 : decide ((R : Int) - n < off) = false := by simp; omega
    obtain ⟨o', rfl⟩ : ∃ o' : Nat, off = o' := ⟨off.toNat, by omega⟩
    obtain ⟨n', rfl⟩ : ∃ n' : Nat, n = n' := ⟨n.toNat, by omega⟩
    have hT : piecesT X c o' n' = pcs X o' n' (n' + 1) 0 := by
      unfold piecesT
      rw [if_pos (by rw [hok, hmb]; simp; omega), Int.toNat_natCast, Int.toNat_natCast]
    have h17 := piecesT_len X c o' n'
    rw [hT] at h17
    have hcol2 := hcol W2
    rw [hT] at hcol2
    have hXl := mayB_lo hmb
    clear hcol hok
    go_wp2_with fail
    refine hcol2.mono ?_
    rintro e W3 ⟨v, rfl, hrow, m3⟩
    obtain ⟨la, lcap, rfl, hcl⟩ := PRow.of_owns hrow
    have bx3 := Lib.hid ((m3.block _ (lt_of bx2.out) (fun x => x)).trans bx2.out)
    have hM3 := Lib.hid (hM2.out.trans m3)
    have HCL := Lib.hid hcl
    obtain ⟨T, hTT⟩ : ∃ T, pcs X o' n' (n' + 1) 0 = T := ⟨_, rfl⟩
    rw [hTT] at HCL h17
    simp only [hTT]
    have HTT := Lib.hid hTT
    clear hcl hrow m3 x0 x1 bx2 hM2 hcol2 hT hTT
    clear t1 t2 t3 t4
    go_wp2
    go_loopw [6, 8, 10] (fun _ a i wr => ∃ (k at_ : Nat) (pre : List Pc), a = .int .i64 at_ ∧ i = .int .i64 pre.length ∧ at_ ≤ n' ∧ Hid (n' + 1 ≤ k + at_) ∧ Hid (T = pre ++ pcs X o' n' k at_) ∧ Hid (Mod (fun _ => False) W3 wr)) (fun _ _ i _ => T.length - (intOf i).toNat)
    case atStart => exact ⟨n' + 1, 0, [], rfl, rfl, Nat.zero_le _, (show n' + 1 ≤ n' + 1 + 0 from Nat.le_refl _), HTT.out.symm, Mod.refl _ _⟩
    case round =>
      obtain ⟨k, at_, pre, rfl, rfl, ha, HK, HP, HM⟩ := hrel
      have bxr : wr.heap[w.heap.size]? = some (.cells #[.int .i64 X, .int .i64 c] 23 (0, 0)) := (HM.out.block _ (lt_of bx3.out) (fun x => x)).trans bx3.out
      by_cases hlt : at_ < n'
      · obtain ⟨k, rfl⟩ : ∃ k', k = k' + 1 := ⟨k - 1, by have := HK.out; omega⟩
        have hst := pcAt_step X o' n' at_ hlt
        have hPP := HP.out
        rw [pcs, if_pos hlt] at hPP
        obtain ⟨p, hp⟩ : ∃ p, pcAt X o' n' at_ = p := ⟨_, rfl⟩
        have hpb : p.b = X + ((o' + at_) / 448 : Nat) := by rw [← hp]; rfl
        have hpf : p.f = (o' + at_) % 448 := by rw [← hp]; rfl
        have hpa : p.a = at_ := by rw [← hp]; rfl
        rw [hp] at hst hPP
        have hil : pre.length < T.length := by rw [hPP]; simp
        obtain ⟨g, rfl, hg, q0, q1, q2, q3⟩ := HCL.out pre.length hil
        have hTi : T[pre.length] = p := by simp [hPP]
        rw [hTi] at q0 q1 q2 q3
        have hbk := HM.out.block g hg (fun x => x)
        replace q0 := (World.cell?_of_block (a := ⟨g, pre.length * 4, none⟩) hbk).trans q0
        replace q1 := (World.cell?_of_block (a := ⟨g, pre.length * 4 + 1, none⟩) hbk).trans q1
        replace q2 := (World.cell?_of_block (a := ⟨g, pre.length * 4 + 2, none⟩) hbk).trans q2
        replace q3 := (World.cell?_of_block (a := ⟨g, pre.length * 4 + 3, none⟩) hbk).trans q3
        obtain ⟨pb, pf, pt, pa⟩ := p
        simp only at hpb hpf hpa hst q0 q1 q2 q3
        subst hpa
        have hq : (o' + pa) / 448 < nblk c := by omega
        have HPP := Lib.hid hPP
        have t1 : decide ((pre.length : Int) < T.length) = true := by simp [hil]
        obtain ⟨W5, hW5⟩ : ∃ W5, wr.alloc (.cells #[.int .i64 pb, .int .i64 pf, .int .i64 pt, .int .i64 pa] 31) = W5 := ⟨_, rfl⟩
        have bp5 : W5.heap[wr.heap.size]? = some (.cells #[.int .i64 pb, .int .i64 pf, .int .i64 pt, .int .i64 pa] 31 (0, 0)) := by subst hW5; exact new_at _ _
        have m5 : Mod (fun _ => False) wr W5 := by subst hW5; exact (Mod.refl _ _).alloc _
        have bx5 := (m5.block _ (lt_of bxr) (fun x => x)).trans bxr
        have p0 : W5.cell? ⟨wr.heap.size, 0, none⟩ = some (.int .i64 pb) := (cell_of bp5 0).trans rfl
        have p1 : W5.cell? ⟨wr.heap.size, 1, none⟩ = some (.int .i64 pf) := (cell_of bp5 1).trans rfl
        have p2 : W5.cell? ⟨wr.heap.size, 2, none⟩ = some (.int .i64 pt) := (cell_of bp5 2).trans rfl
        have p3 : W5.cell? ⟨wr.heap.size, 3, none⟩ = some (.int .i64 pa) := (cell_of bp5 3).trans rfl
        have x0 : W5.cell? ⟨w.heap.size, 0, none⟩ = some (.int .i64 X) := (cell_of bx5 0).trans rfl
        have x1 : W5.cell? ⟨w.heap.size, 1, none⟩ = some (.int .i64 c) := (cell_of bx5 1).trans rfl
        clear hTi hbk hPP HP HCL
        have s1 : decide ((pf : Int) < 0) = false := by simp
        have s2 : decide (pt ≤ pf) = false := by simp; omega
        have s3 : decide (448 < pt) = false := by simp; omega
        have s4 : (pb - X) * 448 + pf = (o' : Int) + pa := by rw [hpb, hpf]; omega
        have s5 : decide (pb < X) = false := by simp; omega
        have b1 : X ≤ pb ∧ pb < X + (nblk c : Int) ∧ X ≤ 16384 ∧ 0 ≤ X := by rw [hpb]; omega
        have HPB := Lib.hid hpb
        have HPF := Lib.hid hpf
        have HPP2 := Lib.hid hp
        have HST := Lib.hid hst.2.2
        have hst1 := hst.1
        have hst2 := hst.2.1
        clear hpb hpf hp hst
        have hnb := nblk_le c
        have hsh := shl_nblk X c ⟨hXl.1, hXl.2⟩ (by omega)
        have s6 : decide (X + (nblk c : Int) ≤ pb) = false := by simp; omega
        generalize hnn : nblk c = nb at *
        go_wp2
        go_roundw
        case rel =>
          refine ⟨_, _, _, ⟨k, pa + (pt - pf), ?_, pre ++ [⟨pb, pf, pt, pa⟩], ?_, HST.out.1, ?_, ?_, ?_⟩, rfl, rfl, rfl⟩
          · congr 1; omega
          · congr 1; simp
          · have := HK.out; show _ ≤ _; omega
          · show _ = _
            rw [HPP.out, List.append_assoc]; rfl
          · exact HM.out.trans m5
        case measure => simp [intOf]; omega
      · have hPP := HP.out
        have hn0 : pcs X o' n' k at_ = [] := by cases k <;> simp [pcs, hlt]
        rw [hn0, List.append_nil] at hPP
        subst hPP
        have t1 : decide ((T.length : Int) < T.length) = false := by simp
        have t2 : ((at_ : Int) == n') = true := by simp; omega
        go_wp2_with fail
        refine (alive_any wr).mono ?_
        rintro e W4 ⟨rfl, m4⟩
        go_wp2
        go_ret
        exact ⟨rfl, (hM3.out.trans HM.out).trans m4⟩

set_option maxRecDepth 100000 in
theorem contract (H : Type) (enc : TypeId × Value → H) (W : World) (base : Nat) (args : Array Value) (ds gs : List (DataW H)) (before : List MemPlace)
    (hval : ∀ (j : Nat) t v, Try.f4.params[j]? = some t → args[j]? = some v → Value.okWide Try.prog W .any base t v)
    (hW : DataW.Whole enc Try.prog Try.f4.params.toList Rows.extentCoversSpec.vars false W args.toList ds gs before) :
    Calls Try.prog 4 args W fun e W' => ∃ v, e = .returned v ∧ Rows.extentCoversSpec.post enc Try.prog Try.f4 false true false false W args v W' := by
  have hW' := hW
  obtain ⟨p, q, hA0, hV, rfl, hfz, hnd⟩ := hW
  have hA : DataW.TrodAll enc Try.prog W 0 (fun _ => true) true Try.f4.params.toList args.toList ds p := hA0
  rw [Try.params4] at hA hval
  obtain ⟨v0, vs0, d0, ds0, p0, q0, hargs, rfl, rfl, h0, r0⟩ := trodAll_cons hA
  obtain ⟨v1, vs1, d1, ds1, p1, q1, rfl, rfl, rfl, h1, r1⟩ := trodAll_cons r0
  obtain ⟨v2, vs2, d2, ds2, p2, q2, rfl, rfl, rfl, h2, r2⟩ := trodAll_cons r1
  obtain ⟨rfl, rfl, rfl⟩ := trodAll_nil r2
  obtain rfl : args = #[v0, v1, v2] := by cases args; simp_all
  obtain ⟨X, c, rfl, hX, hc⟩ := arg_ext (hval 0 23 v0 rfl rfl) h0
  obtain ⟨off, rfl, _, _, hmax1⟩ := open_int Try.underlying3 (hval 1 3 v1 rfl rfl) h1
  obtain ⟨n, rfl, _, _, hmax2⟩ := open_int Try.underlying3 (hval 2 3 v2 rfl rfl) h2
  clear hA0
  refine (walk X c off n hX hc W).mono fun e W' ⟨he, hg⟩ => ?_
  subst he
  exact ⟨_, rfl, law_post hW' hg (by kernel_rfl) rfl rfl rfl rfl rfl⟩

set_option maxRecDepth 100000 in
theorem lifted (os : Os) (started : os.Started) (H : Type) (enc : TypeId × Value → H) :
    ReturnsInHanded {} Try.checked os 4 .any (Rows.extentCoversSpec.pre6 enc Try.prog Try.f4 Rows.extentCoversRow.domain false) (Rows.extentCoversSpec.post enc Try.prog Try.f4 false true false false) := by
  refine returnsInHanded_of_change (C := Try.checked) own_knob started (by kernel_rfl) Try.func4
    (ChangeSpec.witness6 (enc := enc) (C := Try.checked) false ⟨#[], #[.agg #[.int .i64 0, .int .i64 0], .int .i64 0, .int .i64 0], []⟩ 8 (by kernel_rfl) (by kernel_rfl) (by kernel_rfl) (by kernel_rfl)) ?_
  intro W base args ds gs before hval hW _ _
  exact contract H enc W base args ds gs before hval hW

theorem proved : Rows.ExtentCoversSaid :=
  OpenClaim.holds_of_wide 4 Try.f4 rfl rfl rfl rfl rfl rfl rfl ⟨rfl, rfl, rfl, rfl, rfl⟩ rfl rfl rfl rfl rfl (by kernel_rfl) Try.func4 (by kernel_rfl)
    (of_decide_eq_true (by kernel_rfl)) (by unfold Func.isWrapper; first | (rw [if_pos (by decide +kernel)]; kernel_rfl) | (rw [if_neg (by decide +kernel)]; exact ⟨rfl, rfl⟩))
    (fun os started H enc _ => lifted os started H enc)
end Go.Proofs.Ytfmlgleeojblkaa.extentCovers
