/- The document's questions behind the first, plain: they are Wstat's.
   The document's tree: fixed.
   The document's tree: asks.
   A tree of files, plain: it is a tree: parents are directories, directories have no bytes, no two kids have one name. -/
import Derived.Test.YtkcnbbjmkkaolaaGreatDoorQG10
import Derived.Test.YtkcnbbjmkkaolaaGreatDoorQG02
import Derived.Test.YtkcnbbjmkkaolaaGreatDoorQG00
import Derived.Test.YtkcnbbjmkkaolaaGreatDoorQG05
import Derived.Test.YtkcnbbjmkkaolaaGreatDoorQG09
set_option linter.unusedVariables false
set_option linter.unusedSimpArgs false
namespace Go.Proofs.YtkcnbbjmkkaolaaGreatDoor

/-- the first that fails -/
def chE : List (Bool × Int) → Int
  | [] => 0
  | (c, e) :: r => if c then e else chE r
def fixedB (s i : St) : Bool := let a := filledS s i; decide (a.ty = i.ty ∧ a.dev = i.dev ∧ a.qt = i.qt ∧ a.qv = i.qv ∧ a.qp = i.qp ∧ a.at_ = i.at_ ∧ a.u = i.u ∧ a.m = i.m)
def asksL (T : Tr) (n d : Nd) (s : St) (who : ByteArray) (bn bl bm bg bt : Bool) : List (Bool × Int) :=
  [(bn && decide (n.path = 1), 187), (bn && !mayB d who 2, 182), (bn && !nameOk s.n, 183), (bn && (kidOf T.L d s.n).isSome, 184), (bl && n.dir, 181), (bl && !mayB n who 2, 182), (bl && decide (7168 < s.len), 4),
   (bm && !decide (who = n.uid), 182), (bm && (decide (s.mo &&& 2147483648 ≠ modeOf n &&& 2147483648) || decide (s.mo &&& 2147483136 ≠ 0)), 186), (bg && !decide (who = n.uid), 182), (bg && !userOk s.g, 183), (bt && !decide (who = n.uid), 182)]
def asksE (T : Tr) (n : Nd) (s : St) (who : ByteArray) : Int :=
  chE (asksL T n (parOf T.L n) s who (!decide (s.n.size = 0) && !decide (s.n = n.name)) (!decide (s.len = 18446744073709551615) && !decide (s.len = n.data.size)) (!decide (s.mo = 4294967295) && !decide (s.mo = modeOf n)) (!decide (s.g.size = 0) && !decide (s.g = n.gid)) (!decide (s.mt = 4294967295) && !decide (s.mt = n.mtime)))
theorem orN_and (a u i : Nat) (P : Nat → Prop) : (orN a u i ≠ i ∧ P (orN a u i)) ↔ ((a ≠ u ∧ a ≠ i) ∧ P a) := by
  unfold orN
  by_cases h : a = u
  · simp [h]
  · simp [h]
theorem orS_and (a i : ByteArray) (P : ByteArray → Prop) : (orS a i ≠ i ∧ P (orS a i)) ↔ ((a.size ≠ 0 ∧ a ≠ i) ∧ P a) := by
  unfold orS
  by_cases h : a.size = 0
  · simp [h]
  · simp [h]
theorem orN_ne (a u i : Nat) : orN a u i ≠ i ↔ (a ≠ u ∧ a ≠ i) := by
  have := orN_and a u i (fun _ => True)
  simpa using this
theorem orS_ne (a i : ByteArray) : orS a i ≠ i ↔ (a.size ≠ 0 ∧ a ≠ i) := by
  have := orS_and a i (fun _ => True)
  simpa using this
theorem low_and : ∀ r : Fin 512, r.val &&& 2147483136 = 0 ∧ (r.val + 2147483648) &&& 2147483136 = 0 := of_decide_eq_true (by kernel_rfl)
theorem mode_bad {x : Nat} {n : Nd} (hx : x < 4294967296) (hp : n.perm < 512) : (x ^^^ modeOf n) &&& 4294966784 ≠ 0 ↔ (x &&& 2147483648 ≠ modeOf n &&& 2147483648 ∨ x &&& 2147483136 ≠ 0) := by
  have hy : modeOf n < 4294967296 := by unfold modeOf; split <;> omega
  have hy2 : 2147483648 ≤ modeOf n ↔ n.dir = true := by unfold modeOf; cases n.dir <;> simp <;> omega
  have h511 : x &&& 511 = x % 512 := Nat.and_two_pow_sub_one_eq_mod x 9
  have hn : (x ^^^ modeOf n) &&& 4294966784 = 0 ↔ (x &&& 2147483648 = modeOf n &&& 2147483648 ∧ x &&& 2147483136 = 0) := by
    rw [and_top hx, and_top hy]
    constructor
    · intro h
      have hk := mode_keep hx hp h
      rw [h511] at hk
      have hr : x % 512 < 512 := Nat.mod_lt _ (by decide)
      cases hd : n.dir with
      | true =>
        rw [hd] at hk hy2
        simp only [if_true] at hk
        rw [if_pos (by omega), if_pos (hy2.2 rfl)]
        refine ⟨rfl, ?_⟩
        rw [hk]; exact (low_and ⟨x % 512, hr⟩).2
      | false =>
        rw [hd] at hk hy2
        simp only [Bool.false_eq_true, if_false, Nat.add_zero] at hk
        rw [if_neg (by omega), if_neg (fun e => by have := hy2.1 e; cases this)]
        refine ⟨rfl, ?_⟩
        rw [hk]; exact (low_and ⟨x % 512, hr⟩).1
    · rintro ⟨h1, h2⟩
      have hk := top_bits hx h2
      have he : x / 512 = modeOf n / 512 := by
        have hm : modeOf n / 512 = if n.dir then 4194304 else 0 := by unfold modeOf; split <;> omega
        by_cases h3 : 2147483648 ≤ x
        · rw [if_pos h3] at h1 hk
          by_cases h4 : 2147483648 ≤ modeOf n
          · rw [hm, if_pos (hy2.1 h4)]; omega
          · rw [if_neg h4] at h1; cases h1
        · rw [if_neg h3] at h1 hk
          by_cases h4 : 2147483648 ≤ modeOf n
          · rw [if_pos h4] at h1; cases h1
          · rw [hm, if_neg (fun e => h4 (hy2.2 e))]; omega
      apply Nat.eq_of_testBit_eq
      intro k
      rw [Nat.testBit_and, Nat.testBit_xor, Nat.zero_testBit]
      by_cases hk9 : k < 9
      · have : ∀ j : Fin 9, (4294966784 : Nat).testBit j.val = false := by decide
        rw [this ⟨k, hk9⟩, Bool.and_false]
      · have e : x.testBit k = (modeOf n).testBit k := by
          have e1 : (x / 512).testBit (k - 9) = (modeOf n / 512).testBit (k - 9) := by rw [he]
          rw [show (512 : Nat) = 2 ^ 9 from rfl, Nat.testBit_div_two_pow, Nat.testBit_div_two_pow] at e1
          rw [show k - 9 + 9 = k by omega] at e1
          exact e1
        rw [e]; simp
  constructor
  · intro h
    by_cases h1 : x &&& 2147483648 = modeOf n &&& 2147483648
    · by_cases h2 : x &&& 2147483136 = 0
      · exact absurd (hn.2 ⟨h1, h2⟩) h
      · exact .inr h2
    · exact .inl h1
  · rintro h e
    obtain ⟨e1, e2⟩ := hn.1 e
    rcases h with h | h
    · exact h e1
    · exact h e2
theorem chE_cons (c : Bool) (e : Int) (r : List (Bool × Int)) : chE ((c, e) :: r) = if c = true then e else chE r := rfl
theorem asks_wstat (T : Tr) (n : Nd) (s : St) (who : ByteArray) (hm : s.mo < 4294967296) (hp : n.perm < 512) : wstatE T n s who = if fixedB s (statOf n) = false then 186 else asksE T n s who := by
  unfold wstatE asksE asksL
  dsimp only
  simp only [chE_cons]
  refine ite_iff (by unfold fixedB; simp only [decide_eq_false_iff_not]) ?_
  refine ite_iff ?_ ?_
  · rw [show (filledS s (statOf n)).n = orS s.n n.name from rfl, show (statOf n).n = n.name from rfl, orS_and s.n n.name (fun _ => n.path = 1)]; simp
  refine ite_iff ?_ ?_
  · rw [show (filledS s (statOf n)).n = orS s.n n.name from rfl, show (statOf n).n = n.name from rfl, orS_and s.n n.name (fun _ => mayB (parOf T.L n) who 2 = false)]; simp
  refine ite_iff ?_ ?_
  · rw [show (filledS s (statOf n)).n = orS s.n n.name from rfl, show (statOf n).n = n.name from rfl, orS_and s.n n.name (fun z => nameOk z = false)]; simp
  refine ite_iff ?_ ?_
  · rw [show (filledS s (statOf n)).n = orS s.n n.name from rfl, show (statOf n).n = n.name from rfl, orS_and s.n n.name (fun z => kidOf T.L (parOf T.L n) z ≠ none)]; simp [Option.isSome_iff_ne_none]
  refine ite_iff ?_ ?_
  · rw [show (filledS s (statOf n)).len = orN s.len 18446744073709551615 n.data.size from rfl, show (statOf n).len = n.data.size from rfl, orN_and s.len _ n.data.size (fun _ => n.dir = true)]; simp
  refine ite_iff ?_ ?_
  · rw [show (filledS s (statOf n)).len = orN s.len 18446744073709551615 n.data.size from rfl, show (statOf n).len = n.data.size from rfl, orN_and s.len _ n.data.size (fun _ => mayB n who 2 = false)]; simp
  refine ite_iff ?_ ?_
  · rw [show (filledS s (statOf n)).len = orN s.len 18446744073709551615 n.data.size from rfl, show (statOf n).len = n.data.size from rfl, orN_and s.len _ n.data.size (fun z => 7168 < z)]; simp
  refine ite_iff ?_ ?_
  · rw [show (filledS s (statOf n)).mo = orN s.mo 4294967295 (modeOf n) from rfl, show (statOf n).mo = modeOf n from rfl, orN_and s.mo _ (modeOf n) (fun _ => who ≠ n.uid)]; simp
  refine ite_iff ?_ ?_
  · rw [show (filledS s (statOf n)).mo = orN s.mo 4294967295 (modeOf n) from rfl, show (statOf n).mo = modeOf n from rfl, orN_and s.mo _ (modeOf n) (fun z => (z ^^^ modeOf n) &&& 4294966784 ≠ 0), mode_bad hm hp]; simp
  refine ite_iff ?_ ?_
  · rw [show (filledS s (statOf n)).g = orS s.g n.gid from rfl, show (statOf n).g = n.gid from rfl, orS_and s.g n.gid (fun _ => who ≠ n.uid)]; simp
  refine ite_iff ?_ ?_
  · rw [show (filledS s (statOf n)).g = orS s.g n.gid from rfl, show (statOf n).g = n.gid from rfl, orS_and s.g n.gid (fun z => userOk z = false)]; simp
  refine ite_iff ?_ rfl
  rw [show (filledS s (statOf n)).mt = orN s.mt 4294967295 n.mtime from rfl, show (statOf n).mt = n.mtime from rfl, orN_and s.mt _ n.mtime (fun _ => who ≠ n.uid)]; simp
end Go.Proofs.YtkcnbbjmkkaolaaGreatDoor
namespace Go.Proofs.YtkcnbbjmkkaolaaGreatDoor
open Go.RowKit

theorem orN_iff (a u i : Nat) : decide (orN a u i = i) = (decide (a = u) || decide (a = i)) := by
  unfold orN
  by_cases h : a = u
  · simp [h]
  · simp [h]
theorem orS_iff (a i : ByteArray) : decide (orS a i = i) = (decide (a.size = 0) || decide (a = i)) := by
  unfold orS
  by_cases h : a.size = 0
  · simp [h]
  · simp [h]
section
variable {P : Program} {ops : Array Oper} {Q : Exit → Act → World → Prop} {rest : List Oper} {a : Act} {w : World} {o : Oper}
theorem plH (hg : o.guard = none) (h : ∀ K : Act → World → Prop, Hid (∀ a w, Hid (wpList P ops Q rest a w) → K a w) → o.wp P a w K Q) : Hid (wpList P ops Q (o :: rest) a w) :=
  Lib.hid (wpList_plain hg fun K hK => h K (Lib.hid fun a w x => hK a w x.out))
theorem waH (hw : Region.wanted o (yielded ops a.tmps) = true) (h : ∀ K : Act → World → Prop, Hid (∀ a w, Hid (wpList P ops Q rest a w) → K a w) → o.wp P a w K Q) : Hid (wpList P ops Q (o :: rest) a w) :=
  Lib.hid (BigFrame.wpList_want hw fun K hK => h K (Lib.hid fun a w x => hK a w x.out))
theorem skH (hw : Region.wanted o (yielded ops a.tmps) = false) (h : Hid (wpList P ops Q rest (a.put o.dst undef) w)) : Hid (wpList P ops Q (o :: rest) a w) := Lib.hid (wpList_skip hw h.out)
theorem nilH (h : Q .normal a w) : Hid (wpList P ops Q [] a w) := Lib.hid (wpList_nil h)
theorem useR {A0 : Act} {fr : Bool → (Nat → Value) → Act} {H : Bool → Prop} (hk : ∀ a, (∃ bt v, H bt ∧ a = fr bt v) → Hid (wpList P ops Q rest a w)) (bt : Bool) (hb : H bt) (e : A0 = fr bt (fun j => A0.tmps.getD j undef)) : Hid (wpList P ops Q rest A0 w) := hk A0 ⟨bt, _, hb, e⟩
theorem midH {a0 : Act} (k : Nat) (R : Act → Prop) (go : (∀ a, R a → Hid (wpList P ops Q (rest.drop k) a w)) → Hid (wpList P ops Q rest a0 w)) (key : ∀ a, R a → Hid (wpList P ops Q (rest.drop k) a w)) : Hid (wpList P ops Q rest a0 w) := go key
end
attribute [local irreducible] wpList
set_option maxHeartbeats 16000000 in
set_option maxRecDepth 100000 in
theorem rfixed_any (s i : St) (w : World) : Calls Tryz.prog 106 #[.agg s.cells.toArray, .agg i.cells.toArray] w fun e w' => e = .returned (.bool (fixedB s i)) ∧ Mod (fun _ => False) w w' := by
  obtain ⟨W, hW⟩ : ∃ W, (w.alloc (.cells s.cells.toArray 37)).alloc (.cells i.cells.toArray 37) = W := ⟨_, rfl⟩
  have hsz : W.heap.size = w.heap.size + 2 := by subst hW; simp
  have h0 : W.heap[w.heap.size]? = some (.cells s.cells.toArray 37 (0, 0)) := by subst hW; exact alloc_keep (new_at _ _)
  have h1 : W.heap[w.heap.size + 1]? = some (.cells i.cells.toArray 37 (0, 0)) := by subst hW; exact new_at' _ _ _ (by simp)
  have M0 : Mod (fun _ => False) w W := by subst hW; exact ((Mod.refl _ w).alloc _).alloc _
  have hU := runt_any W
  have H0 := Lib.hid h0
  have H1 := Lib.hid h1
  have HM0 := Lib.hid M0
  clear h0 h1 M0 hsz
  go_enter Tryz.func106, Tryz.ntmps106
  go_wp2_with fail
  clear hW
  refine hU.mono ?_
  rintro e W1 ⟨rfl, m1⟩
  clear hU
  go_upto_region 2 with (refine wpl_store_row rfl 37 (.tmp 5) (.tmp 6) rfl rfl W1.heap.size St.un.cells rfl rfl 37 _ (new_at _ _) rfl (st_one _) (by kernel_rfl) ?_; intro V hu mV)
  have mV1 : Mod (fun _ => False) W1 V := ((Mod.refl (fun _ => False) W1).alloc _).trans' mV fun k hk e => by omega
  have M1 : Mod (fun _ => False) W V := m1.trans mV1
  have hs : V.heap[w.heap.size]? = some (.cells s.cells.toArray 37 (0, 0)) := (M1.block _ (lt_of H0.out) (fun x => x)).trans H0.out
  have hi : V.heap[w.heap.size + 1]? = some (.cells i.cells.toArray 37 (0, 0)) := (M1.block _ (lt_of H1.out) (fun x => x)).trans H1.out
  have HM : Hid (Mod (fun _ => False) w V) := HM0.out.trans M1
  obtain ⟨B, hB⟩ : ∃ B, W1.heap.size = B := ⟨_, rfl⟩
  rw [hB] at hu
  simp only [hB]
  have a0 : V.cell? ⟨w.heap.size, 0, none⟩ = some (.int .u16 s.ty) := (cell_of hs 0).trans rfl
  have i0 : V.cell? ⟨w.heap.size + 1, 0, none⟩ = some (.int .u16 i.ty) := (cell_of hi 0).trans rfl
  have z0 : V.cell? ⟨B, 0, none⟩ = some (.int .u16 65535) := (cell_of hu 0).trans rfl
  have a1 : V.cell? ⟨w.heap.size, 1, none⟩ = some (.int .u32 s.dev) := (cell_of hs 1).trans rfl
  have i1 : V.cell? ⟨w.heap.size + 1, 1, none⟩ = some (.int .u32 i.dev) := (cell_of hi 1).trans rfl
  have z1 : V.cell? ⟨B, 1, none⟩ = some (.int .u32 4294967295) := (cell_of hu 1).trans rfl
  have a2 : V.cell? ⟨w.heap.size, 2, none⟩ = some (.int .u8 s.qt) := (cell_of hs 2).trans rfl
  have i2 : V.cell? ⟨w.heap.size + 1, 2, none⟩ = some (.int .u8 i.qt) := (cell_of hi 2).trans rfl
  have z2 : V.cell? ⟨B, 2, none⟩ = some (.int .u8 255) := (cell_of hu 2).trans rfl
  have a3 : V.cell? ⟨w.heap.size, 3, none⟩ = some (.int .u32 s.qv) := (cell_of hs 3).trans rfl
  have i3 : V.cell? ⟨w.heap.size + 1, 3, none⟩ = some (.int .u32 i.qv) := (cell_of hi 3).trans rfl
  have z3 : V.cell? ⟨B, 3, none⟩ = some (.int .u32 4294967295) := (cell_of hu 3).trans rfl
  have a4 : V.cell? ⟨w.heap.size, 4, none⟩ = some (.int .u64 s.qp) := (cell_of hs 4).trans rfl
  have i4 : V.cell? ⟨w.heap.size + 1, 4, none⟩ = some (.int .u64 i.qp) := (cell_of hi 4).trans rfl
  have z4 : V.cell? ⟨B, 4, none⟩ = some (.int .u64 18446744073709551615) := (cell_of hu 4).trans rfl
  have a5 : V.cell? ⟨w.heap.size, 6, none⟩ = some (.int .u32 s.at_) := (cell_of hs 6).trans rfl
  have i5 : V.cell? ⟨w.heap.size + 1, 6, none⟩ = some (.int .u32 i.at_) := (cell_of hi 6).trans rfl
  have z5 : V.cell? ⟨B, 6, none⟩ = some (.int .u32 4294967295) := (cell_of hu 6).trans rfl
  have a6 : V.cell? ⟨w.heap.size, 10, none⟩ = some (.string s.u) := (cell_of hs 10).trans rfl
  have i6 : V.cell? ⟨w.heap.size + 1, 10, none⟩ = some (.string i.u) := (cell_of hi 10).trans rfl
  have a7 : V.cell? ⟨w.heap.size, 12, none⟩ = some (.string s.m) := (cell_of hs 12).trans rfl
  have i7 : V.cell? ⟨w.heap.size + 1, 12, none⟩ = some (.string i.m) := (cell_of hi 12).trans rfl
  obtain ⟨x0, hx0⟩ : ∃ x, decide (s.ty = 65535) = x := ⟨_, rfl⟩
  have tx0 : ((s.ty : Int) == 65535) = x0 := by rw [← hx0, Bool.eq_iff_iff]; simp; omega
  obtain ⟨y0, hy0⟩ : ∃ x, decide (s.ty = i.ty) = x := ⟨_, rfl⟩
  have ty0 : ((s.ty : Int) == (i.ty : Int)) = y0 := by rw [← hy0, Bool.eq_iff_iff]; simp; omega
  obtain ⟨x1, hx1⟩ : ∃ x, decide (s.dev = 4294967295) = x := ⟨_, rfl⟩
  have tx1 : ((s.dev : Int) == 4294967295) = x1 := by rw [← hx1, Bool.eq_iff_iff]; simp; omega
  obtain ⟨y1, hy1⟩ : ∃ x, decide (s.dev = i.dev) = x := ⟨_, rfl⟩
  have ty1 : ((s.dev : Int) == (i.dev : Int)) = y1 := by rw [← hy1, Bool.eq_iff_iff]; simp; omega
  obtain ⟨x2, hx2⟩ : ∃ x, decide (s.qt = 255) = x := ⟨_, rfl⟩
  have tx2 : ((s.qt : Int) == 255) = x2 := by rw [← hx2, Bool.eq_iff_iff]; simp; omega
  obtain ⟨y2, hy2⟩ : ∃ x, decide (s.qt = i.qt) = x := ⟨_, rfl⟩
  have ty2 : ((s.qt : Int) == (i.qt : Int)) = y2 := by rw [← hy2, Bool.eq_iff_iff]; simp; omega
  obtain ⟨x3, hx3⟩ : ∃ x, decide (s.qv = 4294967295) = x := ⟨_, rfl⟩
  have tx3 : ((s.qv : Int) == 4294967295) = x3 := by rw [← hx3, Bool.eq_iff_iff]; simp; omega
  obtain ⟨y3, hy3⟩ : ∃ x, decide (s.qv = i.qv) = x := ⟨_, rfl⟩
  have ty3 : ((s.qv : Int) == (i.qv : Int)) = y3 := by rw [← hy3, Bool.eq_iff_iff]; simp; omega
  obtain ⟨x4, hx4⟩ : ∃ x, decide (s.qp = 18446744073709551615) = x := ⟨_, rfl⟩
  have tx4 : ((s.qp : Int) == 18446744073709551615) = x4 := by rw [← hx4, Bool.eq_iff_iff]; simp; omega
  obtain ⟨y4, hy4⟩ : ∃ x, decide (s.qp = i.qp) = x := ⟨_, rfl⟩
  have ty4 : ((s.qp : Int) == (i.qp : Int)) = y4 := by rw [← hy4, Bool.eq_iff_iff]; simp; omega
  obtain ⟨x5, hx5⟩ : ∃ x, decide (s.at_ = 4294967295) = x := ⟨_, rfl⟩
  have tx5 : ((s.at_ : Int) == 4294967295) = x5 := by rw [← hx5, Bool.eq_iff_iff]; simp; omega
  obtain ⟨y5, hy5⟩ : ∃ x, decide (s.at_ = i.at_) = x := ⟨_, rfl⟩
  have ty5 : ((s.at_ : Int) == (i.at_ : Int)) = y5 := by rw [← hy5, Bool.eq_iff_iff]; simp; omega
  obtain ⟨x6, hx6⟩ : ∃ x, decide (s.u.size = 0) = x := ⟨_, rfl⟩
  have tx6 : s.u.toList.isEmpty = x6 := by rw [empty_beq, ← hx6]
  obtain ⟨y6, hy6⟩ : ∃ x, decide (s.u = i.u) = x := ⟨_, rfl⟩
  have ty6 : (s.u.toList == i.u.toList) = y6 := by rw [← hy6, Bool.eq_iff_iff]; simp; exact ⟨toList_inj, fun e => by rw [e]⟩
  obtain ⟨x7, hx7⟩ : ∃ x, decide (s.m.size = 0) = x := ⟨_, rfl⟩
  have tx7 : s.m.toList.isEmpty = x7 := by rw [empty_beq, ← hx7]
  obtain ⟨y7, hy7⟩ : ∃ x, decide (s.m = i.m) = x := ⟨_, rfl⟩
  have ty7 : (s.m.toList == i.m.toList) = y7 := by rw [← hy7, Bool.eq_iff_iff]; simp; exact ⟨toList_inj, fun e => by rw [e]⟩
  have HF : Hid (fixedB s i = ((x0 || y0) && ((x1 || y1) && ((x2 || y2) && ((x3 || y3) && ((x4 || y4) && ((x5 || y5) && ((x6 || y6) && (x7 || y7))))))))) := by
    show _ = _
    rw [← hx0, ← hy0, ← hx1, ← hy1, ← hx2, ← hy2, ← hx3, ← hy3, ← hx4, ← hy4, ← hx5, ← hy5, ← hx6, ← hy6, ← hx7, ← hy7]
    unfold fixedB filledS
    simp only [Bool.decide_and, orN_iff, orS_iff]
  refine wp_region_lit (show Hid _ from ?_)
  simp only [List.append_eq, List.cons_append, List.nil_append]
  clear hs hi hu m1 mV mV1 M1 hB H0 H1 HM0 hx0 hy0 hx1 hy1 hx2 hy2 hx3 hy3 hx4 hy4 hx5 hy5 hx6 hy6 hx7 hy7
  refine midH 13 (fun a => ∃ (bt : Bool) (v : Nat → Value), Hid (fixedB s i = (bt && ((x1 || y1) && ((x2 || y2) && ((x3 || y3) && ((x4 || y4) && ((x5 || y5) && ((x6 || y6) && (x7 || y7))))))))) ∧ a = { tmps := #[.agg s.cells.toArray, .agg i.cells.toArray, .pointer (some ⟨w.heap.size, 0, none⟩), .pointer (some ⟨w.heap.size + 1, 0, none⟩), .bool false, .pointer (some ⟨B, 0, none⟩), .agg St.un.cells.toArray, v 7, v 8, v 9, v 10, v 11, v 12, v 13, v 14, v 15, v 16, v 17, v 18, .bool bt, undef, undef, undef, undef, undef, undef, undef, undef, undef, undef, undef, undef, undef, undef, undef, undef, undef, undef, undef, undef, undef, undef, undef, undef, undef, undef, undef, undef, undef, undef, undef, undef, undef, undef, undef, undef, undef, undef, undef, undef, undef, undef, undef, undef, undef, undef, undef, undef, undef, undef, undef, undef, undef, undef, undef, undef, undef, undef, undef, undef, undef, undef, undef, undef, undef, undef, undef, undef, undef, undef, undef, undef, undef, undef, undef, undef, undef, undef, undef, undef, undef, undef, undef, undef, undef, undef, undef, undef, undef, undef, undef, undef, undef, undef, undef, undef, undef, undef, undef, undef, undef, undef, undef, undef, undef], defers := [] }) (fun hk => ?_) ?_
  · simp only [List.drop_succ_cons, List.drop_zero] at hk
    have HK := Lib.hid hk
    clear hk
    cases x0 with
    | true =>
      iterate 6
        refine plH rfl fun K hK => ?_
        go_simp
        refine hK.out _ _ ?_
        clear hK K
        try simp only [gA, gB, gC, Act.put, sA, sB, sC]
      iterate 5
        refine skH rfl ?_
        try simp only [gA, gB, gC, Act.put, sA, sB, sC]
      iterate 2
        refine plH rfl fun K hK => ?_
        go_simp
        refine hK.out _ _ ?_
        clear hK K
        try simp only [gA, gB, gC, Act.put, sA, sB, sC]
      exact useR HK.out true (by rw [HF.out]; rfl) rfl
    | false =>
      cases y0 with
      | true =>
        iterate 6
          refine plH rfl fun K hK => ?_
          go_simp
          refine hK.out _ _ ?_
          clear hK K
          try simp only [gA, gB, gC, Act.put, sA, sB, sC]
        iterate 5
          refine waH rfl fun K hK => ?_
          go_simp
          refine hK.out _ _ ?_
          clear hK K
          try simp only [gA, gB, gC, Act.put, sA, sB, sC]
        iterate 2
          refine plH rfl fun K hK => ?_
          go_simp
          refine hK.out _ _ ?_
          clear hK K
          try simp only [gA, gB, gC, Act.put, sA, sB, sC]
        exact useR HK.out true (by rw [HF.out]; rfl) rfl
      | false =>
        iterate 6
          refine plH rfl fun K hK => ?_
          go_simp
          refine hK.out _ _ ?_
          clear hK K
          try simp only [gA, gB, gC, Act.put, sA, sB, sC]
        iterate 5
          refine waH rfl fun K hK => ?_
          go_simp
          refine hK.out _ _ ?_
          clear hK K
          try simp only [gA, gB, gC, Act.put, sA, sB, sC]
        iterate 2
          refine plH rfl fun K hK => ?_
          go_simp
          refine hK.out _ _ ?_
          clear hK K
          try simp only [gA, gB, gC, Act.put, sA, sB, sC]
        exact useR HK.out false (by rw [HF.out]; rfl) rfl
  rintro _ ⟨bt, v, HF2, rfl⟩
  simp only [List.drop_succ_cons, List.drop_zero]
  clear HF a0 i0 tx0 ty0 z0 x0 y0
  have HF := HF2
  clear HF2
  refine midH 14 (fun a => ∃ (bt : Bool) (v : Nat → Value), Hid (fixedB s i = (bt && ((x2 || y2) && ((x3 || y3) && ((x4 || y4) && ((x5 || y5) && ((x6 || y6) && (x7 || y7)))))))) ∧ a = { tmps := #[.agg s.cells.toArray, .agg i.cells.toArray, .pointer (some ⟨w.heap.size, 0, none⟩), .pointer (some ⟨w.heap.size + 1, 0, none⟩), .bool false, .pointer (some ⟨B, 0, none⟩), .agg St.un.cells.toArray, v 7, v 8, v 9, v 10, v 11, v 12, v 13, v 14, v 15, v 16, v 17, v 18, v 19, v 20, v 21, v 22, v 23, v 24, v 25, v 26, v 27, v 28, v 29, v 30, v 31, v 32, .bool bt, undef, undef, undef, undef, undef, undef, undef, undef, undef, undef, undef, undef, undef, undef, undef, undef, undef, undef, undef, undef, undef, undef, undef, undef, undef, undef, undef, undef, undef, undef, undef, undef, undef, undef, undef, undef, undef, undef, undef, undef, undef, undef, undef, undef, undef, undef, undef, undef, undef, undef, undef, undef, undef, undef, undef, undef, undef, undef, undef, undef, undef, undef, undef, undef, undef, undef, undef, undef, undef, undef, undef, undef, undef, undef, undef, undef, undef, undef, undef, undef, undef, undef, undef, undef, undef, undef, undef, undef, undef, undef, undef], defers := [] }) (fun hk => ?_) ?_
  · simp only [List.drop_succ_cons, List.drop_zero] at hk
    have HK := Lib.hid hk
    clear hk
    cases bt with
    | false =>
      iterate 12
        refine skH rfl ?_
        try simp only [gA, gB, gC, Act.put, sA, sB, sC]
      iterate 2
        refine plH rfl fun K hK => ?_
        go_simp
        refine hK.out _ _ ?_
        clear hK K
        try simp only [gA, gB, gC, Act.put, sA, sB, sC]
      exact useR HK.out false (by rw [HF.out]; rfl) rfl
    | true =>
      cases x1 with
      | true =>
        iterate 6
          refine waH rfl fun K hK => ?_
          go_simp
          refine hK.out _ _ ?_
          clear hK K
          try simp only [gA, gB, gC, Act.put, sA, sB, sC]
        iterate 5
          refine skH rfl ?_
          try simp only [gA, gB, gC, Act.put, sA, sB, sC]
        refine waH rfl fun K hK => ?_
        iterate 2
          go_simp
          refine hK.out _ _ ?_
          clear hK K
          try simp only [gA, gB, gC, Act.put, sA, sB, sC]
          refine plH rfl fun K hK => ?_
        go_simp
        refine hK.out _ _ ?_
        clear hK K
        try simp only [gA, gB, gC, Act.put, sA, sB, sC]
        exact useR HK.out true (by rw [HF.out]; rfl) rfl
      | false =>
        cases y1 with
        | true =>
          iterate 12
            refine waH rfl fun K hK => ?_
            go_simp
            refine hK.out _ _ ?_
            clear hK K
            try simp only [gA, gB, gC, Act.put, sA, sB, sC]
          iterate 2
            refine plH rfl fun K hK => ?_
            go_simp
            refine hK.out _ _ ?_
            clear hK K
            try simp only [gA, gB, gC, Act.put, sA, sB, sC]
          exact useR HK.out true (by rw [HF.out]; rfl) rfl
        | false =>
          iterate 12
            refine waH rfl fun K hK => ?_
            go_simp
            refine hK.out _ _ ?_
            clear hK K
            try simp only [gA, gB, gC, Act.put, sA, sB, sC]
          iterate 2
            refine plH rfl fun K hK => ?_
            go_simp
            refine hK.out _ _ ?_
            clear hK K
            try simp only [gA, gB, gC, Act.put, sA, sB, sC]
          exact useR HK.out false (by rw [HF.out]; rfl) rfl
  rintro _ ⟨bt, v, HF2, rfl⟩
  simp only [List.drop_succ_cons, List.drop_zero]
  clear HF a1 i1 tx1 ty1 z1 x1 y1
  have HF := HF2
  clear HF2
  refine midH 18 (fun a => ∃ (bt : Bool) (v : Nat → Value), Hid (fixedB s i = (bt && ((x3 || y3) && ((x4 || y4) && ((x5 || y5) && ((x6 || y6) && (x7 || y7))))))) ∧ a = { tmps := #[.agg s.cells.toArray, .agg i.cells.toArray, .pointer (some ⟨w.heap.size, 0, none⟩), .pointer (some ⟨w.heap.size + 1, 0, none⟩), .bool false, .pointer (some ⟨B, 0, none⟩), .agg St.un.cells.toArray, v 7, v 8, v 9, v 10, v 11, v 12, v 13, v 14, v 15, v 16, v 17, v 18, v 19, v 20, v 21, v 22, v 23, v 24, v 25, v 26, v 27, v 28, v 29, v 30, v 31, v 32, v 33, v 34, v 35, v 36, v 37, v 38, v 39, v 40, v 41, v 42, v 43, v 44, v 45, v 46, v 47, v 48, v 49, v 50, .bool bt, undef, undef, undef, undef, undef, undef, undef, undef, undef, undef, undef, undef, undef, undef, undef, undef, undef, undef, undef, undef, undef, undef, undef, undef, undef, undef, undef, undef, undef, undef, undef, undef, undef, undef, undef, undef, undef, undef, undef, undef, undef, undef, undef, undef, undef, undef, undef, undef, undef, undef, undef, undef, undef, undef, undef, undef, undef, undef, undef, undef, undef, undef, undef, undef, undef, undef, undef, undef, undef, undef, undef, undef, undef], defers := [] }) (fun hk => ?_) ?_
  · simp only [List.drop_succ_cons, List.drop_zero] at hk
    have HK := Lib.hid hk
    clear hk
    cases bt with
    | false =>
      iterate 16
        refine skH rfl ?_
        try simp only [gA, gB, gC, Act.put, sA, sB, sC]
      iterate 2
        refine plH rfl fun K hK => ?_
        go_simp
        refine hK.out _ _ ?_
        clear hK K
        try simp only [gA, gB, gC, Act.put, sA, sB, sC]
      exact useR HK.out false (by rw [HF.out]; rfl) rfl
    | true =>
      cases x2 with
      | true =>
        iterate 8
          refine waH rfl fun K hK => ?_
          go_simp
          refine hK.out _ _ ?_
          clear hK K
          try simp only [gA, gB, gC, Act.put, sA, sB, sC]
        iterate 7
          refine skH rfl ?_
          try simp only [gA, gB, gC, Act.put, sA, sB, sC]
        refine waH rfl fun K hK => ?_
        iterate 2
          go_simp
          refine hK.out _ _ ?_
          clear hK K
          try simp only [gA, gB, gC, Act.put, sA, sB, sC]
          refine plH rfl fun K hK => ?_
        go_simp
        refine hK.out _ _ ?_
        clear hK K
        try simp only [gA, gB, gC, Act.put, sA, sB, sC]
        exact useR HK.out true (by rw [HF.out]; rfl) rfl
      | false =>
        cases y2 with
        | true =>
          iterate 16
            refine waH rfl fun K hK => ?_
            go_simp
            refine hK.out _ _ ?_
            clear hK K
            try simp only [gA, gB, gC, Act.put, sA, sB, sC]
          iterate 2
            refine plH rfl fun K hK => ?_
            go_simp
            refine hK.out _ _ ?_
            clear hK K
            try simp only [gA, gB, gC, Act.put, sA, sB, sC]
          exact useR HK.out true (by rw [HF.out]; rfl) rfl
        | false =>
          iterate 16
            refine waH rfl fun K hK => ?_
            go_simp
            refine hK.out _ _ ?_
            clear hK K
            try simp only [gA, gB, gC, Act.put, sA, sB, sC]
          iterate 2
            refine plH rfl fun K hK => ?_
            go_simp
            refine hK.out _ _ ?_
            clear hK K
            try simp only [gA, gB, gC, Act.put, sA, sB, sC]
          exact useR HK.out false (by rw [HF.out]; rfl) rfl
  rintro _ ⟨bt, v, HF2, rfl⟩
  simp only [List.drop_succ_cons, List.drop_zero]
  clear HF a2 i2 tx2 ty2 z2 x2 y2
  have HF := HF2
  clear HF2
  refine midH 18 (fun a => ∃ (bt : Bool) (v : Nat → Value), Hid (fixedB s i = (bt && ((x4 || y4) && ((x5 || y5) && ((x6 || y6) && (x7 || y7)))))) ∧ a = { tmps := #[.agg s.cells.toArray, .agg i.cells.toArray, .pointer (some ⟨w.heap.size, 0, none⟩), .pointer (some ⟨w.heap.size + 1, 0, none⟩), .bool false, .pointer (some ⟨B, 0, none⟩), .agg St.un.cells.toArray, v 7, v 8, v 9, v 10, v 11, v 12, v 13, v 14, v 15, v 16, v 17, v 18, v 19, v 20, v 21, v 22, v 23, v 24, v 25, v 26, v 27, v 28, v 29, v 30, v 31, v 32, v 33, v 34, v 35, v 36, v 37, v 38, v 39, v 40, v 41, v 42, v 43, v 44, v 45, v 46, v 47, v 48, v 49, v 50, v 51, v 52, v 53, v 54, v 55, v 56, v 57, v 58, v 59, v 60, v 61, v 62, v 63, v 64, v 65, v 66, v 67, v 68, .bool bt, undef, undef, undef, undef, undef, undef, undef, undef, undef, undef, undef, undef, undef, undef, undef, undef, undef, undef, undef, undef, undef, undef, undef, undef, undef, undef, undef, undef, undef, undef, undef, undef, undef, undef, undef, undef, undef, undef, undef, undef, undef, undef, undef, undef, undef, undef, undef, undef, undef, undef, undef, undef, undef, undef, undef], defers := [] }) (fun hk => ?_) ?_
  · simp only [List.drop_succ_cons, List.drop_zero] at hk
    have HK := Lib.hid hk
    clear hk
    cases bt with
    | false =>
      iterate 16
        refine skH rfl ?_
        try simp only [gA, gB, gC, Act.put, sA, sB, sC]
      iterate 2
        refine plH rfl fun K hK => ?_
        go_simp
        refine hK.out _ _ ?_
        clear hK K
        try simp only [gA, gB, gC, Act.put, sA, sB, sC]
      exact useR HK.out false (by rw [HF.out]; rfl) rfl
    | true =>
      cases x3 with
      | true =>
        iterate 8
          refine waH rfl fun K hK => ?_
          go_simp
          refine hK.out _ _ ?_
          clear hK K
          try simp only [gA, gB, gC, Act.put, sA, sB, sC]
        iterate 7
          refine skH rfl ?_
          try simp only [gA, gB, gC, Act.put, sA, sB, sC]
        refine waH rfl fun K hK => ?_
        iterate 2
          go_simp
          refine hK.out _ _ ?_
          clear hK K
          try simp only [gA, gB, gC, Act.put, sA, sB, sC]
          refine plH rfl fun K hK => ?_
        go_simp
        refine hK.out _ _ ?_
        clear hK K
        try simp only [gA, gB, gC, Act.put, sA, sB, sC]
        exact useR HK.out true (by rw [HF.out]; rfl) rfl
      | false =>
        cases y3 with
        | true =>
          iterate 16
            refine waH rfl fun K hK => ?_
            go_simp
            refine hK.out _ _ ?_
            clear hK K
            try simp only [gA, gB, gC, Act.put, sA, sB, sC]
          iterate 2
            refine plH rfl fun K hK => ?_
            go_simp
            refine hK.out _ _ ?_
            clear hK K
            try simp only [gA, gB, gC, Act.put, sA, sB, sC]
          exact useR HK.out true (by rw [HF.out]; rfl) rfl
        | false =>
          iterate 16
            refine waH rfl fun K hK => ?_
            go_simp
            refine hK.out _ _ ?_
            clear hK K
            try simp only [gA, gB, gC, Act.put, sA, sB, sC]
          iterate 2
            refine plH rfl fun K hK => ?_
            go_simp
            refine hK.out _ _ ?_
            clear hK K
            try simp only [gA, gB, gC, Act.put, sA, sB, sC]
          exact useR HK.out false (by rw [HF.out]; rfl) rfl
  rintro _ ⟨bt, v, HF2, rfl⟩
  simp only [List.drop_succ_cons, List.drop_zero]
  clear HF a3 i3 tx3 ty3 z3 x3 y3
  have HF := HF2
  clear HF2
  refine midH 18 (fun a => ∃ (bt : Bool) (v : Nat → Value), Hid (fixedB s i = (bt && ((x5 || y5) && ((x6 || y6) && (x7 || y7))))) ∧ a = { tmps := #[.agg s.cells.toArray, .agg i.cells.toArray, .pointer (some ⟨w.heap.size, 0, none⟩), .pointer (some ⟨w.heap.size + 1, 0, none⟩), .bool false, .pointer (some ⟨B, 0, none⟩), .agg St.un.cells.toArray, v 7, v 8, v 9, v 10, v 11, v 12, v 13, v 14, v 15, v 16, v 17, v 18, v 19, v 20, v 21, v 22, v 23, v 24, v 25, v 26, v 27, v 28, v 29, v 30, v 31, v 32, v 33, v 34, v 35, v 36, v 37, v 38, v 39, v 40, v 41, v 42, v 43, v 44, v 45, v 46, v 47, v 48, v 49, v 50, v 51, v 52, v 53, v 54, v 55, v 56, v 57, v 58, v 59, v 60, v 61, v 62, v 63, v 64, v 65, v 66, v 67, v 68, v 69, v 70, v 71, v 72, v 73, v 74, v 75, v 76, v 77, v 78, v 79, v 80, v 81, v 82, v 83, v 84, v 85, v 86, .bool bt, undef, undef, undef, undef, undef, undef, undef, undef, undef, undef, undef, undef, undef, undef, undef, undef, undef, undef, undef, undef, undef, undef, undef, undef, undef, undef, undef, undef, undef, undef, undef, undef, undef, undef, undef, undef, undef], defers := [] }) (fun hk => ?_) ?_
  · simp only [List.drop_succ_cons, List.drop_zero] at hk
    have HK := Lib.hid hk
    clear hk
    cases bt with
    | false =>
      iterate 16
        refine skH rfl ?_
        try simp only [gA, gB, gC, Act.put, sA, sB, sC]
      iterate 2
        refine plH rfl fun K hK => ?_
        go_simp
        refine hK.out _ _ ?_
        clear hK K
        try simp only [gA, gB, gC, Act.put, sA, sB, sC]
      exact useR HK.out false (by rw [HF.out]; rfl) rfl
    | true =>
      cases x4 with
      | true =>
        iterate 8
          refine waH rfl fun K hK => ?_
          go_simp
          refine hK.out _ _ ?_
          clear hK K
          try simp only [gA, gB, gC, Act.put, sA, sB, sC]
        iterate 7
          refine skH rfl ?_
          try simp only [gA, gB, gC, Act.put, sA, sB, sC]
        refine waH rfl fun K hK => ?_
        iterate 2
          go_simp
          refine hK.out _ _ ?_
          clear hK K
          try simp only [gA, gB, gC, Act.put, sA, sB, sC]
          refine plH rfl fun K hK => ?_
        go_simp
        refine hK.out _ _ ?_
        clear hK K
        try simp only [gA, gB, gC, Act.put, sA, sB, sC]
        exact useR HK.out true (by rw [HF.out]; rfl) rfl
      | false =>
        cases y4 with
        | true =>
          iterate 16
            refine waH rfl fun K hK => ?_
            go_simp
            refine hK.out _ _ ?_
            clear hK K
            try simp only [gA, gB, gC, Act.put, sA, sB, sC]
          iterate 2
            refine plH rfl fun K hK => ?_
            go_simp
            refine hK.out _ _ ?_
            clear hK K
            try simp only [gA, gB, gC, Act.put, sA, sB, sC]
          exact useR HK.out true (by rw [HF.out]; rfl) rfl
        | false =>
          iterate 16
            refine waH rfl fun K hK => ?_
            go_simp
            refine hK.out _ _ ?_
            clear hK K
            try simp only [gA, gB, gC, Act.put, sA, sB, sC]
          iterate 2
            refine plH rfl fun K hK => ?_
            go_simp
            refine hK.out _ _ ?_
            clear hK K
            try simp only [gA, gB, gC, Act.put, sA, sB, sC]
          exact useR HK.out false (by rw [HF.out]; rfl) rfl
  rintro _ ⟨bt, v, HF2, rfl⟩
  simp only [List.drop_succ_cons, List.drop_zero]
  clear HF a4 i4 tx4 ty4 z4 x4 y4
  have HF := HF2
  clear HF2
  refine midH 14 (fun a => ∃ (bt : Bool) (v : Nat → Value), Hid (fixedB s i = (bt && ((x6 || y6) && (x7 || y7)))) ∧ a = { tmps := #[.agg s.cells.toArray, .agg i.cells.toArray, .pointer (some ⟨w.heap.size, 0, none⟩), .pointer (some ⟨w.heap.size + 1, 0, none⟩), .bool false, .pointer (some ⟨B, 0, none⟩), .agg St.un.cells.toArray, v 7, v 8, v 9, v 10, v 11, v 12, v 13, v 14, v 15, v 16, v 17, v 18, v 19, v 20, v 21, v 22, v 23, v 24, v 25, v 26, v 27, v 28, v 29, v 30, v 31, v 32, v 33, v 34, v 35, v 36, v 37, v 38, v 39, v 40, v 41, v 42, v 43, v 44, v 45, v 46, v 47, v 48, v 49, v 50, v 51, v 52, v 53, v 54, v 55, v 56, v 57, v 58, v 59, v 60, v 61, v 62, v 63, v 64, v 65, v 66, v 67, v 68, v 69, v 70, v 71, v 72, v 73, v 74, v 75, v 76, v 77, v 78, v 79, v 80, v 81, v 82, v 83, v 84, v 85, v 86, v 87, v 88, v 89, v 90, v 91, v 92, v 93, v 94, v 95, v 96, v 97, v 98, v 99, v 100, .bool bt, undef, undef, undef, undef, undef, undef, undef, undef, undef, undef, undef, undef, undef, undef, undef, undef, undef, undef, undef, undef, undef, undef, undef], defers := [] }) (fun hk => ?_) ?_
  · simp only [List.drop_succ_cons, List.drop_zero] at hk
    have HK := Lib.hid hk
    clear hk
    cases bt with
    | false =>
      iterate 12
        refine skH rfl ?_
        try simp only [gA, gB, gC, Act.put, sA, sB, sC]
      iterate 2
        refine plH rfl fun K hK => ?_
        go_simp
        refine hK.out _ _ ?_
        clear hK K
        try simp only [gA, gB, gC, Act.put, sA, sB, sC]
      exact useR HK.out false (by rw [HF.out]; rfl) rfl
    | true =>
      cases x5 with
      | true =>
        iterate 6
          refine waH rfl fun K hK => ?_
          go_simp
          refine hK.out _ _ ?_
          clear hK K
          try simp only [gA, gB, gC, Act.put, sA, sB, sC]
        iterate 5
          refine skH rfl ?_
          try simp only [gA, gB, gC, Act.put, sA, sB, sC]
        refine waH rfl fun K hK => ?_
        iterate 2
          go_simp
          refine hK.out _ _ ?_
          clear hK K
          try simp only [gA, gB, gC, Act.put, sA, sB, sC]
          refine plH rfl fun K hK => ?_
        go_simp
        refine hK.out _ _ ?_
        clear hK K
        try simp only [gA, gB, gC, Act.put, sA, sB, sC]
        exact useR HK.out true (by rw [HF.out]; rfl) rfl
      | false =>
        cases y5 with
        | true =>
          iterate 12
            refine waH rfl fun K hK => ?_
            go_simp
            refine hK.out _ _ ?_
            clear hK K
            try simp only [gA, gB, gC, Act.put, sA, sB, sC]
          iterate 2
            refine plH rfl fun K hK => ?_
            go_simp
            refine hK.out _ _ ?_
            clear hK K
            try simp only [gA, gB, gC, Act.put, sA, sB, sC]
          exact useR HK.out true (by rw [HF.out]; rfl) rfl
        | false =>
          iterate 12
            refine waH rfl fun K hK => ?_
            go_simp
            refine hK.out _ _ ?_
            clear hK K
            try simp only [gA, gB, gC, Act.put, sA, sB, sC]
          iterate 2
            refine plH rfl fun K hK => ?_
            go_simp
            refine hK.out _ _ ?_
            clear hK K
            try simp only [gA, gB, gC, Act.put, sA, sB, sC]
          exact useR HK.out false (by rw [HF.out]; rfl) rfl
  rintro _ ⟨bt, v, HF2, rfl⟩
  simp only [List.drop_succ_cons, List.drop_zero]
  clear HF a5 i5 tx5 ty5 z5 x5 y5
  have HF := HF2
  clear HF2
  refine midH 12 (fun a => ∃ (bt : Bool) (v : Nat → Value), Hid (fixedB s i = (bt && (x7 || y7))) ∧ a = { tmps := #[.agg s.cells.toArray, .agg i.cells.toArray, .pointer (some ⟨w.heap.size, 0, none⟩), .pointer (some ⟨w.heap.size + 1, 0, none⟩), .bool false, .pointer (some ⟨B, 0, none⟩), .agg St.un.cells.toArray, v 7, v 8, v 9, v 10, v 11, v 12, v 13, v 14, v 15, v 16, v 17, v 18, v 19, v 20, v 21, v 22, v 23, v 24, v 25, v 26, v 27, v 28, v 29, v 30, v 31, v 32, v 33, v 34, v 35, v 36, v 37, v 38, v 39, v 40, v 41, v 42, v 43, v 44, v 45, v 46, v 47, v 48, v 49, v 50, v 51, v 52, v 53, v 54, v 55, v 56, v 57, v 58, v 59, v 60, v 61, v 62, v 63, v 64, v 65, v 66, v 67, v 68, v 69, v 70, v 71, v 72, v 73, v 74, v 75, v 76, v 77, v 78, v 79, v 80, v 81, v 82, v 83, v 84, v 85, v 86, v 87, v 88, v 89, v 90, v 91, v 92, v 93, v 94, v 95, v 96, v 97, v 98, v 99, v 100, v 101, v 102, v 103, v 104, v 105, v 106, v 107, v 108, v 109, v 110, v 111, v 112, .bool bt, undef, undef, undef, undef, undef, undef, undef, undef, undef, undef, undef], defers := [] }) (fun hk => ?_) ?_
  · simp only [List.drop_succ_cons, List.drop_zero] at hk
    have HK := Lib.hid hk
    clear hk
    cases bt with
    | false =>
      iterate 10
        refine skH rfl ?_
        try simp only [gA, gB, gC, Act.put, sA, sB, sC]
      iterate 2
        refine plH rfl fun K hK => ?_
        go_simp
        refine hK.out _ _ ?_
        clear hK K
        try simp only [gA, gB, gC, Act.put, sA, sB, sC]
      exact useR HK.out false (by rw [HF.out]; rfl) rfl
    | true =>
      cases x6 with
      | true =>
        iterate 4
          refine waH rfl fun K hK => ?_
          go_simp
          refine hK.out _ _ ?_
          clear hK K
          try simp only [gA, gB, gC, Act.put, sA, sB, sC]
        iterate 5
          refine skH rfl ?_
          try simp only [gA, gB, gC, Act.put, sA, sB, sC]
        refine waH rfl fun K hK => ?_
        iterate 2
          go_simp
          refine hK.out _ _ ?_
          clear hK K
          try simp only [gA, gB, gC, Act.put, sA, sB, sC]
          refine plH rfl fun K hK => ?_
        go_simp
        refine hK.out _ _ ?_
        clear hK K
        try simp only [gA, gB, gC, Act.put, sA, sB, sC]
        exact useR HK.out true (by rw [HF.out]; rfl) rfl
      | false =>
        cases y6 with
        | true =>
          iterate 10
            refine waH rfl fun K hK => ?_
            go_simp
            refine hK.out _ _ ?_
            clear hK K
            try simp only [gA, gB, gC, Act.put, sA, sB, sC]
          iterate 2
            refine plH rfl fun K hK => ?_
            go_simp
            refine hK.out _ _ ?_
            clear hK K
            try simp only [gA, gB, gC, Act.put, sA, sB, sC]
          exact useR HK.out true (by rw [HF.out]; rfl) rfl
        | false =>
          iterate 10
            refine waH rfl fun K hK => ?_
            go_simp
            refine hK.out _ _ ?_
            clear hK K
            try simp only [gA, gB, gC, Act.put, sA, sB, sC]
          iterate 2
            refine plH rfl fun K hK => ?_
            go_simp
            refine hK.out _ _ ?_
            clear hK K
            try simp only [gA, gB, gC, Act.put, sA, sB, sC]
          exact useR HK.out false (by rw [HF.out]; rfl) rfl
  rintro _ ⟨bt, v, HF2, rfl⟩
  simp only [List.drop_succ_cons, List.drop_zero]
  clear HF a6 i6 tx6 ty6  x6 y6
  have HF := HF2
  clear HF2
  cases bt with
  | false =>
    iterate 10
      refine skH rfl ?_
      try simp only [gA, gB, gC, Act.put, sA, sB, sC]
    iterate 2
      refine plH rfl fun K hK => ?_
      go_simp
      refine hK.out _ _ ?_
      clear hK K
      try simp only [gA, gB, gC, Act.put, sA, sB, sC]
    refine nilH ?_
    go_wp2
    go_ret
    exact ⟨by rw [HF.out]; rfl, HM.out⟩
  | true =>
    cases x7 with
    | true =>
      iterate 4
        refine waH rfl fun K hK => ?_
        go_simp
        refine hK.out _ _ ?_
        clear hK K
        try simp only [gA, gB, gC, Act.put, sA, sB, sC]
      iterate 5
        refine skH rfl ?_
        try simp only [gA, gB, gC, Act.put, sA, sB, sC]
      refine waH rfl fun K hK => ?_
      iterate 2
        go_simp
        refine hK.out _ _ ?_
        clear hK K
        try simp only [gA, gB, gC, Act.put, sA, sB, sC]
        refine plH rfl fun K hK => ?_
      go_simp
      refine hK.out _ _ ?_
      clear hK K
      try simp only [gA, gB, gC, Act.put, sA, sB, sC]
      refine nilH ?_
      go_wp2
      go_ret
      exact ⟨by rw [HF.out]; rfl, HM.out⟩
    | false =>
      cases y7 with
      | true =>
        iterate 10
          refine waH rfl fun K hK => ?_
          go_simp
          refine hK.out _ _ ?_
          clear hK K
          try simp only [gA, gB, gC, Act.put, sA, sB, sC]
        iterate 2
          refine plH rfl fun K hK => ?_
          go_simp
          refine hK.out _ _ ?_
          clear hK K
          try simp only [gA, gB, gC, Act.put, sA, sB, sC]
        refine nilH ?_
        go_wp2
        go_ret
        exact ⟨by rw [HF.out]; rfl, HM.out⟩
      | false =>
        iterate 10
          refine waH rfl fun K hK => ?_
          go_simp
          refine hK.out _ _ ?_
          clear hK K
          try simp only [gA, gB, gC, Act.put, sA, sB, sC]
        iterate 2
          refine plH rfl fun K hK => ?_
          go_simp
          refine hK.out _ _ ?_
          clear hK K
          try simp only [gA, gB, gC, Act.put, sA, sB, sC]
        refine nilH ?_
        go_wp2
        go_ret
        exact ⟨by rw [HF.out]; rfl, HM.out⟩
end Go.Proofs.YtkcnbbjmkkaolaaGreatDoor
namespace Go.Proofs.YtkcnbbjmkkaolaaGreatDoor
open Go.RowKit

/-- what the questions read: the tree, the stat asked for, the file, its stat, nothing's stat -/
structure AkW (w W : World) (b g cap : Nat) (T : Tr) (vks : Nat → Value) (S N I U : Nat) (n : Nd) (vk : Value) (s : St) : Prop where
  rv : RV W b g cap T vks
  hs : W.heap[S]? = some (stO s)
  hn : W.heap[N]? = some (ndO n vk)
  hi : W.heap[I]? = some (stO (statOf n))
  hu : W.heap[U]? = some (stO St.un)
  m : Mod (fun _ => False) w W
  t : Tabs W
theorem AkW.mod {w W W' : World} {b g cap : Nat} {T : Tr} {vks : Nat → Value} {S N I U : Nat} {n : Nd} {vk : Value} {s : St} (h : AkW w W b g cap T vks S N I U n vk s) (hm : Mod (fun _ => False) W W') : AkW w W' b g cap T vks S N I U n vk s :=
  ⟨h.rv.mod hm, (hm.block _ (lt_of h.hs) (fun x => x)).trans h.hs, (hm.block _ (lt_of h.hn) (fun x => x)).trans h.hn, (hm.block _ (lt_of h.hi) (fun x => x)).trans h.hi, (hm.block _ (lt_of h.hu) (fun x => x)).trans h.hu, h.m.trans hm, h.t.mod hm⟩
set_option maxHeartbeats 16000000 in
set_option maxRecDepth 100000 in
theorem rasks_any (b g cap : Nat) (T : Tr) (vks : Nat → Value) (i : Nat) (n : Nd) (s : St) (who : ByteArray) (w : World) (h : RV w b g cap T vks) (hwf : WF T) (hn : T.L[i]? = some n) (hs : s.Bd) (hT : Tabs w) :
    Calls Tryz.prog 107 #[.pointer (some ⟨b, 0, none⟩), .int .i64 i, .agg s.cells.toArray, .string who] w fun e w' => e = .returned (.int .i64 (asksE T n s who)) ∧ Mod (fun _ => False) w w' := by
  have hl := hwf.len
  have hno := hwf.ok n (List.mem_of_getElem? hn)
  have hil : i < T.L.length := (List.getElem?_eq_some_iff.1 hn).1
  obtain ⟨d, hd⟩ := hwf.par n (List.mem_of_getElem? hn)
  have hpar : parOf T.L n = d := by unfold parOf; rw [hd]; rfl
  obtain ⟨q, hq, hqd, hql⟩ := look_get hd
  have hdo := hwf.ok d (List.mem_of_getElem? hqd)
  obtain ⟨W, hW⟩ : ∃ W, w.alloc (.cells s.cells.toArray 37) = W := ⟨_, rfl⟩
  have hS : W.heap[w.heap.size]? = some (stO s) := by subst hW; exact new_at _ _
  have m0 : Mod (fun _ => False) w W := by subst hW; exact (Mod.refl _ w).alloc _
  have hR0 := h.mod m0
  have c0 := hR0.c0
  have i1 : (0 : Int) ≤ (i : Int) := by omega
  have i2 : (i : Int) < (T.L.length : Int) := by omega
  have hcap := hR0.cap
  have i3 : (T.L.length : Int) ≤ (cap : Int) := by omega
  have hre : W.rangeAt g (i * 13) (ndC (n, vks i)) := hR0.elem hn
  have hone : ∀ u ∈ ndC (n, vks i), u.oneCell' = true := nd_one (hR0.kid i n hn)
  have hln := ndC_len (n, vks i)
  have hsl := st_len s
  have HS := Lib.hid hS
  have M0 := Lib.hid m0
  have HR := Lib.hid hR0
  have HA0 : Hid (asksE T n s who = chE (asksL T n d s who (!decide (s.n.size = 0) && !decide (s.n = n.name)) (!decide (s.len = 18446744073709551615) && !decide (s.len = n.data.size)) (!decide (s.mo = 4294967295) && !decide (s.mo = modeOf n)) (!decide (s.g.size = 0) && !decide (s.g = n.gid)) (!decide (s.mt = 4294967295) && !decide (s.mt = n.mtime)))) := by
    show _ = _
    rw [← hpar]; rfl
  have HNO := Lib.hid hno
  have HDO := Lib.hid hdo
  have HQ := Lib.hid hq
  have HQD := Lib.hid hqd
  have HN := Lib.hid hn
  have HW := Lib.hid hwf
  have HT := Lib.hid (hT.mod m0)
  have HSB := Lib.hid hs
  clear h hS m0 hR0 hno hdo hq hqd hn hd hpar hT hs hwf
  go_enter Tryz.func107, Tryz.ntmps107
  go_upto_region 2 with (first | refine wpList_load_mid rfl 83 (.tmp 18) rfl g (i * 13) rfl (ndC (n, vks i)) _ hre Tryz.underlying83 rfl (by kernel_rfl) ?_ | (refine wpl_store_row rfl 83 (.tmp 9) (.tmp 19) rfl rfl W.heap.size (ndC (n, vks i)) rfl rfl 83 _ (new_at _ _) rfl hone (by kernel_rfl) ?_; intro V1 hd1 md1))
  have m1 : Mod (fun _ => False) W V1 := ((Mod.refl (fun _ => False) W).alloc _).trans' md1 fun k hk e => by omega
  have hbS : w.heap.size < W.heap.size := lt_of HS.out
  generalize hNb : W.heap.size = N at *
  have hr1 := nd_rng hd1
  have HD1 : Hid (V1.heap[N]? = some (ndO n (vks i))) := hd1
  have M1 : Hid (Mod (fun _ => False) W V1) := m1
  have hSt := rstat_any n (vks i) V1 HNO.out
  clear hW hre hone md1 m1 hd1 hNb c0
  go_wp2_with (refine wpList_load_mid rfl 83 (.tmp 9) rfl N 0 rfl (ndC (n, vks i)) _ hr1 Tryz.underlying83 rfl (by kernel_rfl) ?_)
  refine hSt.mono ?_
  rintro e V2 ⟨rfl, m2⟩
  clear hSt hr1
  go_upto_region 3 with (refine wpl_store_row rfl 37 (.tmp 10) (.tmp 21) rfl rfl V2.heap.size (statOf n).cells rfl rfl 37 _ (new_at _ _) rfl (st_one _) (by kernel_rfl) ?_; intro V3 hi3 mi3)
  have m3 : Mod (fun _ => False) V1 V3 := (m2.alloc _).trans' mi3 fun k hk e => by have := m2.size; omega
  generalize hIb : V2.heap.size = I at *
  have HI3 : Hid (V3.heap[I]? = some (stO (statOf n))) := hi3
  have M3 := Lib.hid m3
  have hUn := runt_any V3
  clear hi3 mi3 m2 m3 hIb
  go_wp2_with fail
  refine hUn.mono ?_
  rintro e V4 ⟨rfl, m4⟩
  clear hUn
  go_upto_region 4 with (refine wpl_store_row rfl 37 (.tmp 11) (.tmp 22) rfl rfl V4.heap.size St.un.cells rfl rfl 37 _ (new_at _ _) rfl (st_one _) (by kernel_rfl) ?_; intro V5 hu5 mu5)
  have m5 : Mod (fun _ => False) V3 V5 := (m4.alloc _).trans' mu5 fun k hk e => by have := m4.size; omega
  generalize hUb : V4.heap.size = U at *
  have HK : Hid (AkW w V5 b g cap T vks w.heap.size N I U n (vks i) s) := by
    have mA := M1.out.trans (M3.out.trans m5)
    exact ⟨HR.out.mod mA, (mA.block _ (lt_of HS.out) (fun x => x)).trans HS.out, ((M3.out.trans m5).block _ (lt_of HD1.out) (fun x => x)).trans HD1.out, (m5.block _ (lt_of HI3.out) (fun x => x)).trans HI3.out, hu5, M0.out.trans mA, HT.out.mod mA⟩
  have n9 : V5.cell? ⟨N, 9, none⟩ = some (.int .u64 n.parent) := (cell_of HK.out.hn 9).trans rfl
  have hA := at_any b g cap T vks n.parent V5 HK.out.rv hl
  rw [atI_some HQ.out] at hA
  generalize hSb : w.heap.size = S at *
  have HSS := Lib.hid hSb
  clear m4 mu5 m5 hu5 hUb hSb HS M0 HR HD1 M1 HI3 M3 HT HQ
  go_wp2_with fail
  refine hA.mono ?_
  rintro e w1 ⟨rfl, rfl⟩
  clear hA n9
  obtain ⟨en, hen⟩ : ∃ x, decide (s.n.size = 0) = x := ⟨_, rfl⟩
  have x1 : s.n.toList.isEmpty = en := by rw [empty_beq, ← hen]
  obtain ⟨qn, hqn⟩ : ∃ x, decide (s.n = n.name) = x := ⟨_, rfl⟩
  have x2 : (s.n.toList == n.name.toList) = qn := by rw [← hqn, Bool.eq_iff_iff]; simp; exact ⟨toList_inj, fun e => by rw [e]⟩
  obtain ⟨el, hel⟩ : ∃ x, decide (s.len = 18446744073709551615) = x := ⟨_, rfl⟩
  have y1 : ((s.len : Int) != 18446744073709551615) = !el := by rw [← hel, Bool.eq_iff_iff]; simp; omega
  obtain ⟨ql, hql'⟩ : ∃ x, decide (s.len = n.data.size) = x := ⟨_, rfl⟩
  have y2 : ((s.len : Int) != (n.data.size : Int)) = !ql := by rw [← hql', Bool.eq_iff_iff]; simp; omega
  obtain ⟨em, hem⟩ : ∃ x, decide (s.mo = 4294967295) = x := ⟨_, rfl⟩
  have z1 : ((s.mo : Int) != 4294967295) = !em := by rw [← hem, Bool.eq_iff_iff]; simp; omega
  obtain ⟨qm, hqm⟩ : ∃ x, decide (s.mo = modeOf n) = x := ⟨_, rfl⟩
  have z2 : ((s.mo : Int) != (modeOf n : Int)) = !qm := by rw [← hqm, Bool.eq_iff_iff]; simp; omega
  obtain ⟨eg, heg⟩ : ∃ x, decide (s.g.size = 0) = x := ⟨_, rfl⟩
  have g1 : s.g.toList.isEmpty = eg := by rw [empty_beq, ← heg]
  obtain ⟨qg, hqg⟩ : ∃ x, decide (s.g = n.gid) = x := ⟨_, rfl⟩
  have g2 : (s.g.toList == n.gid.toList) = qg := by rw [← hqg, Bool.eq_iff_iff]; simp; exact ⟨toList_inj, fun e => by rw [e]⟩
  obtain ⟨et, het⟩ : ∃ x, decide (s.mt = 4294967295) = x := ⟨_, rfl⟩
  have r1 : ((s.mt : Int) != 4294967295) = !et := by rw [← het, Bool.eq_iff_iff]; simp; omega
  obtain ⟨qt, hqt⟩ : ∃ x, decide (s.mt = n.mtime) = x := ⟨_, rfl⟩
  have r2 : ((s.mt : Int) != (n.mtime : Int)) = !qt := by rw [← hqt, Bool.eq_iff_iff]; simp; omega
  rw [hen, hqn, hel, hql', hem, hqm, heg, hqg, het, hqt] at HA0
  clear hen hqn hel hql' hem hqm heg hqg het hqt
  have X1 := Lib.hid x1
  have X2 := Lib.hid x2
  have Y1_ := Lib.hid y1
  have Y2_ := Lib.hid y2
  have Z1 := Lib.hid z1
  have Z2 := Lib.hid z2
  have G1 := Lib.hid g1
  have G2 := Lib.hid g2
  have R1 := Lib.hid r1
  have R2 := Lib.hid r2
  clear x1 x2 y1 y2 z1 z2 g1 g2 r1 r2
  unfold asksL at HA0
  obtain ⟨ow, how⟩ : ∃ x, decide (who = n.uid) = x := ⟨_, rfl⟩
  have OW : Hid ((who.toList == n.uid.toList) = ow) := by show _ = _; rw [← how, Bool.eq_iff_iff]; simp; exact ⟨toList_inj, fun e => by rw [e]⟩
  rw [how] at HA0
  clear how
  obtain ⟨bn, hbn⟩ : ∃ x, (!en && !qn) = x := ⟨_, rfl⟩
  obtain ⟨bl, hbl⟩ : ∃ x, (!el && !ql) = x := ⟨_, rfl⟩
  obtain ⟨bm, hbm⟩ : ∃ x, (!em && !qm) = x := ⟨_, rfl⟩
  obtain ⟨bg, hbg⟩ : ∃ x, (!eg && !qg) = x := ⟨_, rfl⟩
  obtain ⟨bt, hbt⟩ : ∃ x, (!et && !qt) = x := ⟨_, rfl⟩
  rw [hbn, hbl, hbm, hbg, hbt] at HA0
  have BN := Lib.hid hbn
  have BL := Lib.hid hbl
  have BM := Lib.hid hbm
  have BG := Lib.hid hbg
  have BT := Lib.hid hbt
  clear hbn hbl hbm hbg hbt
  obtain ⟨b1, hb1⟩ : ∃ x, decide (n.path = 1) = x := ⟨_, rfl⟩
  obtain ⟨b2, hb2⟩ : ∃ x, mayB d who 2 = x := ⟨_, rfl⟩
  obtain ⟨b3, hb3⟩ : ∃ x, nameOk s.n = x := ⟨_, rfl⟩
  obtain ⟨b4, hb4⟩ : ∃ x, (kidOf T.L d s.n).isSome = x := ⟨_, rfl⟩
  obtain ⟨b5, hb5⟩ : ∃ x, n.dir = x := ⟨_, rfl⟩
  obtain ⟨b6, hb6⟩ : ∃ x, mayB n who 2 = x := ⟨_, rfl⟩
  obtain ⟨b7, hb7⟩ : ∃ x, decide (7168 < s.len) = x := ⟨_, rfl⟩
  obtain ⟨e8, he8⟩ : ∃ x, decide (s.mo &&& 2147483648 ≠ modeOf n &&& 2147483648) = x := ⟨_, rfl⟩
  obtain ⟨f8, hf8⟩ : ∃ x, decide (s.mo &&& 2147483136 ≠ 0) = x := ⟨_, rfl⟩
  obtain ⟨b9, hb9⟩ : ∃ x, userOk s.g = x := ⟨_, rfl⟩
  rw [hb1, hb2, hb3, hb4, hb5, hb6, hb7, he8, hf8, hb9] at HA0
  have B1 := Lib.hid hb1
  have B2 := Lib.hid hb2
  have B3 := Lib.hid hb3
  have B4 := Lib.hid hb4
  have B5 := Lib.hid hb5
  have B6 := Lib.hid hb6
  have B7 := Lib.hid hb7
  have E8 := Lib.hid he8
  have F8 := Lib.hid hf8
  have B9 := Lib.hid hb9
  clear hb1 hb2 hb3 hb4 hb5 hb6 hb7 he8 hf8 hb9
  have q1 : (0 : Int) ≤ (q : Int) := by omega
  have q2 : (q : Int) < (T.L.length : Int) := by omega
  go_upto_region 5 with (fail)
  go_cut [36] from 27 to 36 (fun v wx => v = .bool bn ∧ V5 = wx)
  case first =>
    have c1 : V5.cell? ⟨S, 9, none⟩ = some (.string s.n) := (cell_of HK.out.hs 9).trans rfl
    have c2 : V5.cell? ⟨I, 9, none⟩ = some (.string n.name) := (cell_of HK.out.hi 9).trans rfl
    have x1 := X1.out
    have x2 := X2.out
    cases en with
    | true =>
      go_wp2
      go_meet
      case rel => exact ⟨by rw [← BN.out]; rfl, rfl⟩
    | false =>
      go_wp2
      go_meet
      case rel => exact ⟨by rw [← BN.out]; rfl, rfl⟩
  case rest =>
  obtain ⟨rfl, rfl⟩ := hcut
  clear X1 X2 BN
  go_upto_if 36 with (fail)
  go_cut [59] from 37 to 58 (fun _ wx => Hid (AkW w wx b g cap T vks S N I U n (vks i) s) ∧ Hid (asksE T n s who = chE [(bl && b5, 181), (bl && !b6, 182), (bl && b7, 4), (bm && !ow, 182), (bm && (e8 || f8), 186), (bg && !ow, 182), (bg && !b9, 183), (bt && !ow, 182)]))
  case first =>
    cases bn with
    | false =>
      go_wp2
      go_meet
      case rel => exact ⟨HK, HA0.out⟩
    | true =>
    have n0 : V5.cell? ⟨N, 0, none⟩ = some (.int .u64 n.path) := (cell_of HK.out.hn 0).trans rfl
    have t1 : ((n.path : Int) == 1) = b1 := by rw [← B1.out, Bool.eq_iff_iff]; simp; omega
    cases b1 with
    | true => go_wp2
              go_ret
              exact ⟨by rw [HA0.out]; rfl, (HK).out.m⟩
    | false =>
    have hMy := rmay_any d (vks q) who 2 V5 (by decide) HDO.out.perm
    rw [B2.out] at hMy
    have hrq : V5.rangeAt g (q * 13) (ndC (d, vks q)) := HK.out.rv.elem HQD.out
    have c0 := HK.out.rv.c0
    have hlq := ndC_len (d, vks q)
    clear B1
    go_wp2_with (refine wpList_load_mid rfl 83 (.tmp 45) rfl g (q * 13) rfl (ndC (d, vks q)) _ hrq Tryz.underlying83 rfl (by kernel_rfl) ?_)
    refine hMy.mono ?_
    rintro e V6 ⟨rfl, m6⟩
    have HK6 := Lib.hid (HK.out.mod m6)
    clear hMy hrq c0 n0 t1 m6 HK
    cases b2 with
    | false => go_wp2
               go_ret
               exact ⟨by rw [HA0.out]; rfl, (HK6).out.m⟩
    | true =>
    have c1 : V6.cell? ⟨S, 9, none⟩ = some (.string s.n) := (cell_of HK6.out.hs 9).trans rfl
    have hNm := rname_any s.n V6 (by have := HSB.out.n; omega) HK6.out.t
    rw [B3.out] at hNm
    go_wp2_with fail
    refine hNm.mono ?_
    rintro e V7 ⟨rfl, m7⟩
    have HK7 := Lib.hid (HK6.out.mod m7)
    clear hNm c1 m7 HK6
    cases b3 with
    | false => go_wp2
               go_ret
               exact ⟨by rw [HA0.out]; rfl, (HK7).out.m⟩
    | true =>
    have c1 : V7.cell? ⟨S, 9, none⟩ = some (.string s.n) := (cell_of HK7.out.hs 9).trans rfl
    have hKd := rkid_any b g cap T vks q d s.n V7 HK7.out.rv hl HQD.out (by have := HDO.out.kl; omega)
    cases hkg : kidGo T.L s.n d.kids with
    | some k =>
      obtain ⟨j, hj, _, _⟩ := kid_atI HW.out.rise hkg
      have hb4 : b4 = true := by rw [← B4.out]; unfold kidOf; rw [hkg]; rfl
      subst hb4
      rw [hj] at hKd
      have t5 : decide ((0 : Int) ≤ (j : Int)) = true := by simp
      clear hj hkg B4
      go_wp2_with fail
      refine hKd.mono ?_
      rintro e V8 ⟨rfl, rfl⟩
      clear hKd
      go_wp2
      go_ret
      exact ⟨by rw [HA0.out]; rfl, (HK7).out.m⟩
    | none =>
      have hb4 : b4 = false := by rw [← B4.out]; unfold kidOf; rw [hkg]; rfl
      subst hb4
      rw [kid_none hkg] at hKd
      clear hkg B4
      go_wp2_with fail
      refine hKd.mono ?_
      rintro e V8 ⟨rfl, rfl⟩
      clear hKd
      go_wp2
      go_meet
      case rel => exact ⟨HK7, HA0.out⟩
  case rest =>
  obtain ⟨HKb, HAb⟩ := hcut
  clear HK HA0 B1 B2 B3 B4
  generalize wc = Y1 at *
  have HA0 := HAb
  have HK := HKb
  clear HAb HKb
  go_upto_region 14 with (fail)
  go_cut [71] from 60 to 71 (fun v wx => v = .bool bl ∧ Y1 = wx)
  case first =>
    have c1 : Y1.cell? ⟨S, 8, none⟩ = some (.int .u64 s.len) := (cell_of HK.out.hs 8).trans rfl
    have c2 : Y1.cell? ⟨U, 8, none⟩ = some (.int .u64 18446744073709551615) := (cell_of HK.out.hu 8).trans rfl
    have c3 : Y1.cell? ⟨I, 8, none⟩ = some (.int .u64 n.data.size) := (cell_of HK.out.hi 8).trans rfl
    have y1 := Y1_.out
    have y2 := Y2_.out
    cases el with
    | true =>
      go_wp2
      go_meet
      case rel => exact ⟨by rw [← BL.out]; rfl, rfl⟩
    | false =>
      go_wp2
      go_meet
      case rel => exact ⟨by rw [← BL.out]; rfl, rfl⟩
  case rest =>
  obtain ⟨rfl, rfl⟩ := hcut
  clear Y1_ Y2_ BL
  go_upto_if 71 with (fail)
  go_cut [80] from 72 to 79 (fun _ wx => Hid (AkW w wx b g cap T vks S N I U n (vks i) s) ∧ Hid (asksE T n s who = chE [(bm && !ow, 182), (bm && (e8 || f8), 186), (bg && !ow, 182), (bg && !b9, 183), (bt && !ow, 182)]))
  case first =>
    cases bl with
    | false =>
      go_wp2
      go_meet
      case rel => exact ⟨HK, HA0.out⟩
    | true =>
    have n1 : Y1.cell? ⟨N, 1, none⟩ = some (.bool n.dir) := (cell_of HK.out.hn 1).trans rfl
    rw [B5.out] at n1
    cases b5 with
    | true => go_wp2
              go_ret
              exact ⟨by rw [HA0.out]; rfl, (HK).out.m⟩
    | false =>
    have hMy := rmay_any n (vks i) who 2 Y1 (by decide) HNO.out.perm
    rw [B6.out] at hMy
    have hrq : Y1.rangeAt N 0 (ndC (n, vks i)) := nd_rng HK.out.hn
    clear B5
    go_wp2_with (refine wpList_load_mid rfl 83 (.tmp 9) rfl N 0 rfl (ndC (n, vks i)) _ hrq Tryz.underlying83 rfl (by kernel_rfl) ?_)
    refine hMy.mono ?_
    rintro e V6 ⟨rfl, m6⟩
    have HK6 := Lib.hid (HK.out.mod m6)
    clear hMy hrq n1 m6 HK
    cases b6 with
    | false => go_wp2
               go_ret
               exact ⟨by rw [HA0.out]; rfl, (HK6).out.m⟩
    | true =>
    have c1 : V6.cell? ⟨S, 8, none⟩ = some (.int .u64 s.len) := (cell_of HK6.out.hs 8).trans rfl
    have t1 : decide (7168 < s.len) = b7 := B7.out
    have t2 : decide (7168 < (s.len : Int)) = b7 := by rw [← B7.out, Bool.eq_iff_iff]; simp; omega
    clear B7
    cases b7 with
    | true => go_wp2
              go_ret
              exact ⟨by rw [HA0.out]; rfl, (HK6).out.m⟩
    | false =>
      go_wp2
      go_meet
      case rel => exact ⟨HK6, HA0.out⟩
  case rest =>
  obtain ⟨HKb, HAb⟩ := hcut
  clear HK HA0 B5 B6 B7
  generalize wc = Y2 at *
  have HA0 := HAb
  have HK := HKb
  clear HAb HKb
  go_upto_region 21 with (fail)
  go_cut [92] from 81 to 92 (fun v wx => v = .bool bm ∧ Y2 = wx)
  case first =>
    have c1 : Y2.cell? ⟨S, 5, none⟩ = some (.int .u32 s.mo) := (cell_of HK.out.hs 5).trans rfl
    have c2 : Y2.cell? ⟨U, 5, none⟩ = some (.int .u32 4294967295) := (cell_of HK.out.hu 5).trans rfl
    have c3 : Y2.cell? ⟨I, 5, none⟩ = some (.int .u32 (modeOf n)) := (cell_of HK.out.hi 5).trans rfl
    have z1 := Z1.out
    have z2 := Z2.out
    cases em with
    | true =>
      go_wp2
      go_meet
      case rel => exact ⟨by rw [← BM.out]; rfl, rfl⟩
    | false =>
      go_wp2
      go_meet
      case rel => exact ⟨by rw [← BM.out]; rfl, rfl⟩
  case rest =>
  obtain ⟨rfl, rfl⟩ := hcut
  clear Z1 Z2 BM
  go_upto_if 92 with (fail)
  go_cut [109] from 93 to 108 (fun _ wx => Hid (AkW w wx b g cap T vks S N I U n (vks i) s) ∧ Hid (asksE T n s who = chE [(bg && !ow, 182), (bg && !b9, 183), (bt && !ow, 182)]))
  case first =>
    cases bm with
    | false =>
      go_wp2
      go_meet
      case rel => exact ⟨HK, HA0.out⟩
    | true =>
    have n4 : Y2.cell? ⟨N, 4, none⟩ = some (.string n.uid) := (cell_of HK.out.hn 4).trans rfl
    have t1 : (who.toList == n.uid.toList) = ow := OW.out
    cases ow with
    | false => go_wp2
               go_ret
               exact ⟨by rw [HA0.out]; rfl, (HK).out.m⟩
    | true =>
    have c1 : Y2.cell? ⟨S, 5, none⟩ = some (.int .u32 s.mo) := (cell_of HK.out.hs 5).trans rfl
    have c3 : Y2.cell? ⟨I, 5, none⟩ = some (.int .u32 (modeOf n)) := (cell_of HK.out.hi 5).trans rfl
    have hmo := HSB.out.ok.mo
    have hmN : modeOf n < 4294967296 := by have := HNO.out.perm; unfold modeOf; split <;> omega
    have v1 : bits .and .u32 (s.mo : Int) 2147483648 = ((s.mo &&& 2147483648 : Nat) : Int) := u32_and_nat s.mo 2147483648 hmo (by decide)
    have v2 : bits .and .u32 (modeOf n : Int) 2147483648 = ((modeOf n &&& 2147483648 : Nat) : Int) := u32_and_nat (modeOf n) 2147483648 hmN (by decide)
    have v3 : bits .andNot .u32 (s.mo : Int) 2147484159 = ((s.mo &&& 2147483136 : Nat) : Int) := u32_andNot_nat s.mo 2147484159 hmo (by decide)
    obtain ⟨qD, hqD⟩ : ∃ q, s.mo &&& 2147483648 = q := ⟨_, rfl⟩
    obtain ⟨rD, hrD⟩ : ∃ q, modeOf n &&& 2147483648 = q := ⟨_, rfl⟩
    obtain ⟨qA, hqA⟩ : ∃ q, s.mo &&& 2147483136 = q := ⟨_, rfl⟩
    rw [hqD] at v1
    rw [hrD] at v2
    rw [hqA] at v3
    have t3 : ((qD : Int) != (rD : Int)) = e8 := by rw [← E8.out, hqD, hrD, Bool.eq_iff_iff]; simp; omega
    have t3' : (qD != rD) = e8 := by rw [← E8.out, hqD, hrD, Bool.eq_iff_iff]; simp
    have t4 : ((qA : Int) != 0) = f8 := by rw [← F8.out, hqA, Bool.eq_iff_iff]; simp
    have t4' : (qA != 0) = f8 := by rw [← F8.out, hqA, Bool.eq_iff_iff]; simp
    clear E8 F8 hqD hrD hqA
    cases e8 with
    | true => go_wp2
              go_ret
              exact ⟨by rw [HA0.out]; rfl, (HK).out.m⟩
    | false =>
    cases f8 with
    | true => go_wp2
              go_ret
              exact ⟨by rw [HA0.out]; rfl, (HK).out.m⟩
    | false =>
      go_wp2
      go_meet
      case rel => exact ⟨HK, HA0.out⟩
  case rest =>
  obtain ⟨HKb, HAb⟩ := hcut
  clear HK HA0 E8 F8
  generalize wc = Y3 at *
  have HA0 := HAb
  have HK := HKb
  clear HAb HKb
  go_upto_region 26 with (fail)
  go_cut [119] from 110 to 119 (fun v wx => v = .bool bg ∧ Y3 = wx)
  case first =>
    have c1 : Y3.cell? ⟨S, 11, none⟩ = some (.string s.g) := (cell_of HK.out.hs 11).trans rfl
    have c3 : Y3.cell? ⟨I, 11, none⟩ = some (.string n.gid) := (cell_of HK.out.hi 11).trans rfl
    have z1 := G1.out
    have z2 := G2.out
    cases eg with
    | true =>
      go_wp2
      go_meet
      case rel => exact ⟨by rw [← BG.out]; rfl, rfl⟩
    | false =>
      go_wp2
      go_meet
      case rel => exact ⟨by rw [← BG.out]; rfl, rfl⟩
  case rest =>
  obtain ⟨rfl, rfl⟩ := hcut
  clear G1 G2 BG
  go_upto_if 119 with (fail)
  go_cut [127] from 120 to 126 (fun _ wx => Hid (AkW w wx b g cap T vks S N I U n (vks i) s) ∧ Hid (asksE T n s who = chE [(bt && !ow, 182)]))
  case first =>
    cases bg with
    | false =>
      go_wp2
      go_meet
      case rel => exact ⟨HK, HA0.out⟩
    | true =>
    have n4 : Y3.cell? ⟨N, 4, none⟩ = some (.string n.uid) := (cell_of HK.out.hn 4).trans rfl
    have t1 : (who.toList == n.uid.toList) = ow := OW.out
    cases ow with
    | false => go_wp2
               go_ret
               exact ⟨by rw [HA0.out]; rfl, (HK).out.m⟩
    | true =>
    have c1 : Y3.cell? ⟨S, 11, none⟩ = some (.string s.g) := (cell_of HK.out.hs 11).trans rfl
    have hUs := ruser_any s.g Y3 (by have := HSB.out.g; omega) HK.out.t
    rw [B9.out] at hUs
    go_wp2_with fail
    refine hUs.mono ?_
    rintro e V7 ⟨rfl, m7⟩
    have HK7 := Lib.hid (HK.out.mod m7)
    clear hUs c1 m7 HK
    cases b9 with
    | false => go_wp2
               go_ret
               exact ⟨by rw [HA0.out]; rfl, (HK7).out.m⟩
    | true =>
      go_wp2
      go_meet
      case rel => exact ⟨HK7, HA0.out⟩
  case rest =>
  obtain ⟨HKb, HAb⟩ := hcut
  clear HK HA0 B9
  generalize wc = Y4 at *
  have HA0 := HAb
  have HK := HKb
  clear HAb HKb
  go_upto_region 31 with (fail)
  go_cut [145] from 128 to 145 (fun v wx => v = .bool (bt && !ow) ∧ Y4 = wx)
  case first =>
    have c1 : Y4.cell? ⟨S, 7, none⟩ = some (.int .u32 s.mt) := (cell_of HK.out.hs 7).trans rfl
    have c2 : Y4.cell? ⟨U, 7, none⟩ = some (.int .u32 4294967295) := (cell_of HK.out.hu 7).trans rfl
    have c3 : Y4.cell? ⟨I, 7, none⟩ = some (.int .u32 n.mtime) := (cell_of HK.out.hi 7).trans rfl
    have n4 : Y4.cell? ⟨N, 4, none⟩ = some (.string n.uid) := (cell_of HK.out.hn 4).trans rfl
    have z1 := R1.out
    have z2 := R2.out
    have t1 : (who.toList == n.uid.toList) = ow := OW.out
    cases et with
    | true =>
      go_wp2
      go_meet
      case rel => exact ⟨by rw [← BT.out]; rfl, rfl⟩
    | false =>
      cases qt with
      | true =>
        go_wp2
        go_meet
        case rel => exact ⟨by rw [← BT.out]; rfl, rfl⟩
      | false =>
        cases ow with
        | true =>
          go_wp2
          go_meet
          case rel => exact ⟨by rw [← BT.out]; rfl, rfl⟩
        | false =>
          go_wp2
          go_meet
          case rel => exact ⟨by rw [← BT.out]; rfl, rfl⟩
  case rest =>
  obtain ⟨rfl, rfl⟩ := hcut
  clear R1 R2 OW
  obtain ⟨bx, hbx⟩ : ∃ x, (bt && !ow) = x := ⟨_, rfl⟩
  rw [hbx] at HA0 ⊢
  clear hbx BT
  cases bx with
  | true => go_wp2
            go_ret
            exact ⟨by rw [HA0.out]; rfl, (HK).out.m⟩
  | false => go_wp2
             go_ret
             exact ⟨by rw [HA0.out]; rfl, (HK).out.m⟩
end Go.Proofs.YtkcnbbjmkkaolaaGreatDoor
namespace Go.Proofs.YtkcnbbjmkkaolaaGreatDoor

structure WT (T : Tr) : Prop where
  isd : ∀ n ∈ T.L, ∀ d, look T.L n.parent = some d → d.dir = true
  dat : ∀ n ∈ T.L, n.dir = true → n.data.size = 0
  nm : ∀ n ∈ T.L, ∀ m ∈ T.L, n.path ≠ 1 → m.path ≠ 1 → n.parent = m.parent → n.name = m.name → n.path = m.path
theorem kidGo_none {L : List Nd} {name : ByteArray} : ∀ {l : List Nat}, kidGo L name l = none → ∀ k ∈ l, ∀ n, look L k = some n → n.name ≠ name := by
  intro l
  induction l with
  | nil => intro _ k hk; cases hk
  | cons x r ih =>
    intro h k hk n hn
    unfold kidGo at h
    rcases List.mem_cons.1 hk with e | e
    · subst e
      rw [hn] at h
      simp only at h
      intro e
      rw [if_pos e] at h
      cases h
    · cases hx : look L x with
      | none => rw [hx] at h; exact ih h k e n hn
      | some m =>
        rw [hx] at h
        simp only at h
        by_cases hm : m.name = name
        · rw [if_pos hm] at h; cases h
        · rw [if_neg hm] at h; exact ih h k e n hn
theorem kid_mem {T : Tr} (h : WF T) {d m : Nd} (hd : d ∈ T.L) (hm : m ∈ T.L) (h1 : m.path ≠ 1) (hp : m.parent = d.path) : m.path ∈ d.kids := by
  have := h.one m hm h1 d (by rw [hp]; exact look_of h.rise hd)
  exact List.count_pos_iff.1 (by omega)
theorem no_kid {T : Tr} (h : WF T) {d m : Nd} {name : ByteArray} (hd : d ∈ T.L) (hk : kidOf T.L d name = none) (hm : m ∈ T.L) (h1 : m.path ≠ 1) (hp : m.parent = d.path) : m.name ≠ name :=
  kidGo_none hk m.path (kid_mem h hd hm h1 hp) m (look_of h.rise hm)
theorem WT.upd {T : Tr} (h : WT T) (p : Nat) (f : Nd → Nd) (hp : ∀ n, (f n).path = n.path) (hr : ∀ n, (f n).parent = n.parent) (hd : ∀ n, (f n).dir = n.dir) (hn : ∀ n, (f n).name = n.name) (ho : ∀ n ∈ T.L, n.path = p → n.dir = true → (f n).data.size = 0) : WT { T with L := updN T.L p f } := by
  have g1 : ∀ m : Nd, (if m.path = p then f m else m).path = m.path := fun m => by split; exact hp m; rfl
  have g2 : ∀ m : Nd, (if m.path = p then f m else m).parent = m.parent := fun m => by split; exact hr m; rfl
  have g3 : ∀ m : Nd, (if m.path = p then f m else m).dir = m.dir := fun m => by split; exact hd m; rfl
  have g4 : ∀ m : Nd, (if m.path = p then f m else m).name = m.name := fun m => by split; exact hn m; rfl
  refine ⟨?_, ?_, ?_⟩
  · intro n hn d hd
    obtain ⟨m, hm, rfl⟩ := upd_mem hn
    have hd' : look (updN T.L p f) _ = some d := hd
    rw [g2, upd_get hp] at hd'
    cases hl : look T.L m.parent with
    | none => rw [hl] at hd'; cases hd'
    | some d0 =>
      rw [hl] at hd'
      injection hd' with hd'
      rw [← hd', g3]
      exact h.isd m hm d0 hl
  · intro n hn hd
    obtain ⟨m, hm, rfl⟩ := upd_mem hn
    rw [g3] at hd
    split
    · rename_i e; exact ho m hm e hd
    · exact h.dat m hm hd
  · intro n hn m hm h1 h2 h3 h4
    obtain ⟨n', hn', rfl⟩ := upd_mem hn
    obtain ⟨m', hm', rfl⟩ := upd_mem hm
    rw [g1] at h1 h2 ⊢
    rw [g1]
    rw [g2, g2] at h3
    rw [g4, g4] at h4
    exact h.nm n' hn' m' hm' h1 h2 h3 h4
theorem new_wt (owner : ByteArray) (now : Nat) : WT (newT owner now) := by
  have hm : ∀ n ∈ (newT owner now).L, n = rootNd owner now := fun n hn => List.mem_singleton.1 hn
  refine ⟨fun n hn d hd => ?_, fun n hn _ => by rw [hm n hn]; rfl, fun n hn m hm' _ _ _ _ => by rw [hm n hn, hm m hm']⟩
  obtain ⟨h1, _⟩ := look_some hd
  rw [hm d h1]; rfl
theorem open_wt {T : Tr} (h : WT T) (p m : Nat) (who : ByteArray) (now : Nat) : WT (openT T p m who now).1 := by
  unfold openT
  cases look T.L p with
  | none => exact h
  | some n =>
    show WT (if _ then _ else _ : Tr × Qi × Int).1
    split
    · exact h
    · split
      · exact h.upd p _ (fun _ => rfl) (fun _ => rfl) (fun _ => rfl) (fun _ => rfl) fun n hm _ _ => rfl
      · exact h
theorem write_wt {T : Tr} (hw : WF T) (h : WT T) (p off : Nat) (d who : ByteArray) (now : Nat) : WT (writeT T p off d who now).1 := by
  unfold writeT
  cases hn : look T.L p with
  | none => exact h
  | some n =>
    show WT (if _ then _ else _ : Tr × Nat × Int).1
    split
    · exact h
    · rename_i hd
      split
      · exact h
      · split
        · exact h
        · refine h.upd p _ (fun _ => rfl) (fun _ => rfl) (fun _ => rfl) (fun _ => rfl) fun m hm hp hmd => ?_
          have h6 := look_of hw.rise hm
          rw [hp, hn] at h6
          injection h6 with h6
          rw [← h6] at hmd
          exact absurd hmd hd
theorem create_wt {T : Tr} (hw : WF T) (h : WT T) (p : Nat) (name who : ByteArray) (perm m now : Nat) : WT (createT T p name perm m who now).1 := by
  cases hd : look T.L p with
  | none => unfold createT; rw [hd]; exact h
  | some d =>
    rw [create_eq hd]
    split
    · exact h
    · rename_i e
      obtain ⟨e1, _, _, _, _, e6, _, _⟩ := createE_zero e
      obtain ⟨hdm, hdp⟩ := look_some hd
      have h1 : WT { T with L := updN T.L d.path (fun d => Nd.touch { d with kids := putKid d.kids (T.last + 1) } who now) } :=
        h.upd d.path _ (fun _ => rfl) (fun _ => rfl) (fun _ => rfl) (fun _ => rfl) fun n hn _ hnd => h.dat n hn hnd
      unfold createT'
      have hN : newNd T d name perm who now = newNd T d name perm who now := rfl
      have hlo : ∀ n ∈ updN T.L d.path (fun d => Nd.touch { d with kids := putKid d.kids (T.last + 1) } who now), n.path ≤ T.last := fun n hn => by
        obtain ⟨m, hm, rfl⟩ := upd_mem hn
        have := (hw.lo m hm).2
        split
        · exact this
        · exact this
      have hnk : ∀ n ∈ updN T.L d.path (fun d => Nd.touch { d with kids := putKid d.kids (T.last + 1) } who now), n.path ≠ 1 → n.parent = d.path → n.name ≠ name := fun n hn hn1 hnp => by
        obtain ⟨m, hm, rfl⟩ := upd_mem hn
        by_cases e : m.path = d.path
        · rw [if_pos e] at hn1 hnp ⊢
          exact no_kid (m := m) hw hdm e6 hm hn1 hnp
        · rw [if_neg e] at hn1 hnp ⊢
          exact no_kid hw hdm e6 hm hn1 hnp
      obtain ⟨A, hA⟩ : ∃ A, updN T.L d.path (fun d => Nd.touch { d with kids := putKid d.kids (T.last + 1) } who now) = A := ⟨_, rfl⟩
      rw [hA] at hlo hnk h1 ⊢
      have hda : look A d.path = some (Nd.touch { d with kids := putKid d.kids (T.last + 1) } who now) := by
        rw [← hA, upd_get (f := fun d : Nd => Nd.touch { d with kids := putKid d.kids (T.last + 1) } who now) (fun _ => rfl), look_of hw.rise hdm]
        show some (if d.path = d.path then _ else _) = _
        rw [if_pos rfl]
      have hpl : ∀ n ∈ A, ∃ c, look A n.parent = some c := fun n hn => by
        rw [← hA] at hn ⊢
        obtain ⟨m, hm, rfl⟩ := upd_mem hn
        obtain ⟨c, hc⟩ := hw.par m hm
        have e2 : (if m.path = d.path then Nd.touch { m with kids := putKid m.kids (T.last + 1) } who now else m).parent = m.parent := by split <;> rfl
        rw [e2, upd_get (f := fun d : Nd => Nd.touch { d with kids := putKid d.kids (T.last + 1) } who now) (fun _ => rfl), hc]
        exact ⟨_, rfl⟩
      refine ⟨?_, ?_, ?_⟩
      · intro n hn c hc
        have hc' : look (A ++ [newNd T d name perm who now]) n.parent = some c := hc
        rw [look_app] at hc'
        rcases List.mem_append.1 hn with x | x
        · obtain ⟨c0, hc0⟩ := hpl n x
          rw [hc0] at hc'
          injection hc' with hc'
          rw [← hc']
          exact h1.isd n x c0 hc0
        · rw [List.mem_singleton.1 x] at hc'
          rw [show (newNd T d name perm who now).parent = d.path from rfl, hda] at hc'
          injection hc' with hc'
          rw [← hc']
          exact e1
      · intro n hn hnd
        rcases List.mem_append.1 hn with x | x
        · exact h1.dat n x hnd
        · rw [List.mem_singleton.1 x]; rfl
      · intro n hn m hm g1 g2 g3 g4
        rcases List.mem_append.1 hn with x | x
        · rcases List.mem_append.1 hm with y | y
          · exact h1.nm n x m y g1 g2 g3 g4
          · rw [List.mem_singleton.1 y] at g3 g4
            exact absurd g4 (hnk n x g1 g3)
        · rcases List.mem_append.1 hm with y | y
          · rw [List.mem_singleton.1 x] at g3 g4
            exact absurd g4.symm (hnk m y g2 g3.symm)
          · rw [List.mem_singleton.1 x, List.mem_singleton.1 y]
theorem remove_wt {T : Tr} (hw : WF T) (h : WT T) (p : Nat) (who : ByteArray) (now : Nat) : WT (removeT T p who now).1 := by
  cases hd : look T.L p with
  | none => unfold removeT; rw [hd]; exact h
  | some n =>
    rw [remove_eq hd]
    split
    · exact h
    · rename_i e
      obtain ⟨e1, _, e3⟩ := removeE_zero e
      obtain ⟨hn, _⟩ := look_some hd
      have h0 : WT { T with L := T.L.filter fun m => decide (m.path ≠ n.path) } := by
        refine ⟨?_, fun m hm => h.dat m (List.mem_filter.1 hm).1, fun a ha b hb => h.nm a (List.mem_filter.1 ha).1 b (List.mem_filter.1 hb).1⟩
        intro m hm c hc
        have hm' := (List.mem_filter.1 hm).1
        have hc' : look (T.L.filter fun m => decide (m.path ≠ n.path)) m.parent = some c := hc
        rw [look_filter (no_kids hw hn hm' e1 e3)] at hc'
        exact h.isd m hm' c hc'
      unfold removeT'
      exact h0.upd n.parent _ (fun _ => rfl) (fun _ => rfl) (fun _ => rfl) (fun _ => rfl) fun m hm _ hmd => h0.dat m hm hmd
theorem wstatN_name {n : Nd} {s : St} {who : ByteArray} {now : Nat} : (wstatN n s who now).name = (filledS s (statOf n)).n := by
  unfold wstatN
  simp only
theorem wstatN_data {n : Nd} {s : St} {who : ByteArray} {now : Nat} (h : (filledS s (statOf n)).len = n.data.size) : (wstatN n s who now).data = n.data := by
  unfold wstatN
  simp only
  rw [if_neg (by intro x; exact x h)]
theorem wstat_wt {T : Tr} (hw : WF T) (h : WT T) (p : Nat) (s : St) (who : ByteArray) (now : Nat) : WT (wstatT T p s who now).1 := by
  cases hd : look T.L p with
  | none => unfold wstatT; rw [hd]; exact h
  | some n =>
    rw [wstat_eq hd]
    split
    · exact h
    · rename_i e
      obtain ⟨e1, e2, _⟩ := wstatE_zero e
      obtain ⟨hn, _⟩ := look_some hd
      obtain ⟨A, hA⟩ : ∃ A, (if (filledS s (statOf n)).n ≠ n.name then updN T.L n.parent (fun d => Nd.touch d who now) else T.L) = A := ⟨_, rfl⟩
      have hR : wstatT' T n s who now = { T with L := updN A n.path fun n => wstatN n s who now } := by unfold wstatT'; rw [hA]
      rw [hR]
      -- what stands in A
      have hAm : ∀ m ∈ A, ∃ m' ∈ T.L, m.path = m'.path ∧ m.parent = m'.parent ∧ m.dir = m'.dir ∧ m.name = m'.name ∧ m.data = m'.data ∧ (m'.path = n.path → m = m' ∧ m' = n) := fun m hm => by
        have hone : ∀ m' ∈ T.L, m'.path = n.path → m' = n := fun m' hm' hp => by
          have h6 := look_of hw.rise hm'
          rw [hp, look_of hw.rise hn] at h6
          injection h6 with h6
          exact h6.symm
        by_cases hx : (filledS s (statOf n)).n ≠ n.name
        · rw [if_pos hx] at hA
          rw [← hA] at hm
          obtain ⟨m', hm', rfl⟩ := upd_mem hm
          refine ⟨m', hm', ?_, ?_, ?_, ?_, ?_, fun hp => ?_⟩
          · split <;> rfl
          · split <;> rfl
          · split <;> rfl
          · split <;> rfl
          · split <;> rfl
          · have := hw.up n hn (e1 hx).1
            rw [if_neg (by omega)]
            exact ⟨rfl, hone m' hm' hp⟩
        · rw [if_neg hx] at hA
          rw [← hA] at hm
          exact ⟨m, hm, rfl, rfl, rfl, rfl, rfl, fun hp => ⟨rfl, hone m hm hp⟩⟩
      have hAl : ∀ q d, look A q = some d → ∃ d', look T.L q = some d' ∧ d.dir = d'.dir := fun q d hq => by
        by_cases hx : (filledS s (statOf n)).n ≠ n.name
        · rw [if_pos hx] at hA
          rw [← hA, upd_get (f := fun d : Nd => Nd.touch d who now) (fun _ => rfl)] at hq
          cases hl : look T.L q with
          | none => rw [hl] at hq; cases hq
          | some d' =>
            rw [hl] at hq
            injection hq with hq
            refine ⟨d', rfl, ?_⟩
            rw [← hq]
            show (if _ then _ else _ : Nd).dir = _
            split <;> rfl
        · rw [if_neg hx] at hA
          rw [← hA] at hq
          exact ⟨d, hq, rfl⟩
      -- a file of the result: that of T, and its name and bytes
      have hB : ∀ m ∈ updN A n.path (fun n => wstatN n s who now), ∃ m' ∈ T.L, m.path = m'.path ∧ m.parent = m'.parent ∧ m.dir = m'.dir ∧ ((m'.path ≠ n.path ∧ m.name = m'.name ∧ m.data = m'.data) ∨ (m' = n ∧ m = wstatN n s who now)) := fun m hm => by
        obtain ⟨a, ha, rfl⟩ := upd_mem hm
        obtain ⟨m', hm', g1, g2, g3, g4, g5, g6⟩ := hAm a ha
        by_cases hp : m'.path = n.path
        · obtain ⟨x1, x2⟩ := g6 hp
          rw [if_pos (by rw [g1, hp])]
          refine ⟨m', hm', ?_, ?_, ?_, .inr ⟨x2, by rw [x1, x2]⟩⟩
          · rw [(wstatN_path a s who now).1, g1]
          · rw [(wstatN_path a s who now).2.1, g2]
          · rw [(wstatN_path a s who now).2.2.2, g3]
        · rw [if_neg (by rw [g1]; exact hp)]
          exact ⟨m', hm', g1, g2, g3, .inl ⟨hp, g4, g5⟩⟩
      refine ⟨?_, ?_, ?_⟩
      · intro m hm c hc
        obtain ⟨m', hm', _, g2, _⟩ := hB m hm
        have hc' : look (updN A n.path fun n => wstatN n s who now) m.parent = some c := hc
        rw [upd_get (fun m => (wstatN_path m s who now).1), g2] at hc'
        cases hl : look A m'.parent with
        | none => rw [hl] at hc'; cases hc'
        | some c0 =>
          rw [hl] at hc'
          injection hc' with hc'
          obtain ⟨d', hd', e4⟩ := hAl _ _ hl
          have h5 := h.isd m' hm' d' hd'
          rw [← hc']
          show (if _ then _ else _ : Nd).dir = _
          split
          · rw [(wstatN_path c0 s who now).2.2.2, e4]; exact h5
          · rw [e4]; exact h5
      · intro m hm hmd
        obtain ⟨m', hm', _, _, g3, g⟩ := hB m hm
        rw [g3] at hmd
        rcases g with ⟨_, _, g5⟩ | ⟨g5, g6⟩
        · rw [g5]; exact h.dat m' hm' hmd
        · rw [g6]
          rw [g5] at hmd
          by_cases hx : (filledS s (statOf n)).len = n.data.size
          · rw [wstatN_data hx]; exact h.dat n hn hmd
          · have := (e2 hx).1
            rw [hmd] at this; cases this
      · intro a ha c hc g1 g2 g3 g4
        obtain ⟨a', ha', a1, a2, _, a4⟩ := hB a ha
        obtain ⟨c', hc', c1, c2, _, c4⟩ := hB c hc
        rw [a1] at g1 ⊢
        rw [c1] at g2 ⊢
        rw [a2, c2] at g3
        have hnew : ∀ m' ∈ T.L, m'.path ≠ 1 → n.path ≠ 1 → m'.path ≠ n.path → m'.parent = n.parent → m'.name ≠ (wstatN n s who now).name := fun m' hm' y1 y0 y2 y3 y4 => by
          rw [wstatN_name] at y4
          by_cases hx : (filledS s (statOf n)).n ≠ n.name
          · obtain ⟨f1, _, _, f4⟩ := e1 hx
            obtain ⟨d, hd⟩ := hw.par n hn
            have hpo : parOf T.L n = d := by unfold parOf; rw [hd]; rfl
            rw [hpo] at f4
            obtain ⟨hdm, hdp⟩ := look_some hd
            exact no_kid hw hdm f4 hm' y1 (by rw [y3, hdp]) y4
          · rw [Decidable.not_not.1 hx] at y4
            exact y2 (h.nm m' hm' n hn y1 y0 y3 y4)
        rcases a4 with ⟨x1, x2, _⟩ | ⟨x1, x2⟩
        · rcases c4 with ⟨z1, z2, _⟩ | ⟨z1, z2⟩
          · rw [x2, z2] at g4
            exact h.nm a' ha' c' hc' g1 g2 g3 g4
          · rw [x2, z2] at g4
            rw [z1] at g3 g2
            exact absurd g4 (hnew a' ha' g1 g2 x1 g3)
        · rcases c4 with ⟨z1, z2, _⟩ | ⟨z1, z2⟩
          · rw [x2, z2] at g4
            rw [x1] at g3 g1
            exact absurd g4.symm (hnew c' hc' g2 g1 z1 g3.symm)
          · rw [x1, z1]
end Go.Proofs.YtkcnbbjmkkaolaaGreatDoor
