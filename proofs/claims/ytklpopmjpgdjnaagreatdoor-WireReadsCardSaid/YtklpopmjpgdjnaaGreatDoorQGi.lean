/- Package wire's Cut.
   Package wire's May.
   The law's works: a Tclunk, there and back. -/
import Derived.Test.YtklpopmjpgdjnaaGreatDoorQEncode
import Derived.Test.YtklpopmjpgdjnaaGreatDoorQStatDec
import Derived.Test.YtklpopmjpgdjnaaGreatDoorQSame24
import Derived.Test.YtklpopmjpgdjnaaGreatDoorQDecode
import Derived.Test.YtklpopmjpgdjnaaGreatDoorQGg
set_option linter.unusedVariables false
set_option linter.unusedSimpArgs false
namespace Go.Proofs.YtklpopmjpgdjnaaGreatDoor
open Go.RowKit

def cutW (R : Nat × Rd) (s : ByteArray) (most : Nat) : ByteArray × ByteArray × Int :=
  if R.2.f ≠ 0 then (ByteArray.empty, s, 0)
  else if R.1 < 7 then (ByteArray.empty, ByteArray.empty, 51)
  else if most < R.1 then (ByteArray.empty, ByteArray.empty, 4)
  else if s.size < R.1 then (ByteArray.empty, s, 0)
  else (s.extract 0 R.1, s.extract R.1 s.size, 0)
def cutM (s : ByteArray) (most : Nat) : ByteArray × ByteArray × Int := cutW (Rd.num ⟨s, 0, 0⟩ 4) s most
set_option maxHeartbeats 1000000 in
set_option maxRecDepth 100000 in
theorem cut_any (s : ByteArray) (most : Nat) (w : World) (hs : s.size ≤ maxLen) (hm : most < 4294967296) :
    Calls Tryz.prog 11 #[.string s, .int .u32 most] w fun e w' => e = .returned (.tuple #[.string (cutM s most).1, .string (cutM s most).2.1, .int .i64 (cutM s most).2.2]) ∧ Mod (fun _ => False) w w' := by
  have hN := fun U => new_any s U
  go_enter Tryz.func11, Tryz.ntmps11
  go_wp2_with fail
  refine (hN _).mono ?_
  rintro e w1 ⟨rfl, hr, m1⟩
  have hU := U32_any w.heap.size ⟨s, 0, 0⟩ w1 hr hs (Nat.zero_le _)
  have HD : Hid (cutM s most = cutW (Rd.num ⟨s, 0, 0⟩ 4) s most) := rfl
  generalize Rd.num ⟨s, 0, 0⟩ 4 = R at *
  obtain ⟨n, r⟩ := R
  have hsl : w.heap.size < w1.heap.size := lt_of hr
  go_wp2_with fail
  refine hU.mono ?_
  rintro e w2 ⟨rfl, h2, m2⟩
  have hft := fault_any w.heap.size r w2 h2
  go_wp2_with fail
  refine hft.mono ?_
  rintro e w3 ⟨rfl, rfl⟩
  have M : Hid (Mod (fun _ => False) w w2) := m1.trans' m2 fun j hj e => by omega
  clear hN hU hft m1 m2 h2 hr hsl
  by_cases h1 : r.f ≠ 0
  · have t1 : (r.f != 0) = true := by simpa using h1
    have hv : Hid (cutM s most = (ByteArray.empty, s, 0)) := by rw [HD.out]; exact if_pos h1
    clear HD
    go_wp2
    refine bodyPost_ret (v := .tuple #[.string ByteArray.empty, .string s, .int .i64 0]) ?_ rfl ⟨by rw [hv.out], M.out⟩
    first | rfl | (simp [results, Tryz.f11, go_sem]; done) | (simp [results, Tryz.f11, go_sem]; rfl)
  · have t1 : (r.f != 0) = false := by simp at h1 ⊢; exact h1
    have HD2 := Lib.hid (HD.out.trans (if_neg h1))
    clear HD
    by_cases h2 : n < 7
    · have t2 : decide ((n : Int) < 7) = true := by simp; omega
      have hv : Hid (cutM s most = (ByteArray.empty, ByteArray.empty, 51)) := by rw [HD2.out]; exact if_pos h2
      clear HD2
      go_wp2
      refine bodyPost_ret (v := .tuple #[.string ByteArray.empty, .string ByteArray.empty, .int .i64 51]) ?_ rfl ⟨by rw [hv.out], M.out⟩
      first | rfl | (simp [results, Tryz.f11, go_sem]; done) | (simp [results, Tryz.f11, go_sem]; rfl)
    · have t2 : decide ((n : Int) < 7) = false := by simp; omega
      have HD3 := Lib.hid (HD2.out.trans (if_neg h2))
      clear HD2
      by_cases h3 : most < n
      · have t3 : decide ((most : Int) < (n : Int)) = true := by simp; omega
        have hv : Hid (cutM s most = (ByteArray.empty, ByteArray.empty, 4)) := by rw [HD3.out]; exact if_pos h3
        clear HD3
        go_wp2
        refine bodyPost_ret (v := .tuple #[.string ByteArray.empty, .string ByteArray.empty, .int .i64 4]) ?_ rfl ⟨by rw [hv.out], M.out⟩
        first | rfl | (simp [results, Tryz.f11, go_sem]; done) | (simp [results, Tryz.f11, go_sem]; rfl)
      · have t3 : decide ((most : Int) < (n : Int)) = false := by simp; omega
        have HD4 := Lib.hid (HD3.out.trans (if_neg h3))
        have hw : IntKind.i64.wrap (n : Int) = n := by rw [IntKind.wrap_i64]; omega
        clear HD3
        by_cases h4 : s.size < n
        · have t4 : decide ((s.size : Int) < (n : Int)) = true := by simp; omega
          have hv : Hid (cutM s most = (ByteArray.empty, s, 0)) := by rw [HD4.out]; exact if_pos h4
          clear HD4
          go_wp2
          refine bodyPost_ret (v := .tuple #[.string ByteArray.empty, .string s, .int .i64 0]) ?_ rfl ⟨by rw [hv.out], M.out⟩
          first | rfl | (simp [results, Tryz.f11, go_sem]; done) | (simp [results, Tryz.f11, go_sem]; rfl)
        · have t4 : decide ((s.size : Int) < (n : Int)) = false := by simp; omega
          have hv : Hid (cutM s most = (s.extract 0 n, s.extract n s.size, 0)) := by rw [HD4.out]; exact if_neg h4
          clear HD4
          have hle : n ≤ s.size := by omega
          have M : Hid (Mod (fun _ => False) w w2.drew) := M.out.drew
          go_wp2
          refine wp_onlyN ?_
          go_region_held_law (fun _ => True) (trivial) (fail)
          all_goals refine onlyN_out ?_
          all_goals go_wp2
          refine bodyPost_ret (v := .tuple #[.string (s.extract 0 n), .string (s.extract n s.size), .int .i64 0]) ?_ rfl ⟨by rw [hv.out], M.out⟩
          first | rfl | (simp [results, Tryz.f11, go_sem]; done) | (simp [results, Tryz.f11, go_sem]; rfl)
end Go.Proofs.YtklpopmjpgdjnaaGreatDoor
namespace Go.Proofs.YtklpopmjpgdjnaaGreatDoor
open Go.RowKit

set_option maxHeartbeats 1000000 in
set_option maxRecDepth 100000 in
theorem may_any (m : Msg) (vn vq : Value) (P : Nat → Prop) (w : World) (hk : m.Ok) (hs : m.Small) (hn : SlAt w P vn (m.names.map .string)) (hq : RecsAt Qd.cells 3 w P vq m.qids) (hP : ∀ g, P g → g < w.heap.size) (hT : Tabs w) :
    Calls Tryz.prog 17 #[.agg (m.cells vn vq).toArray] w fun e w' => e = .returned (.int .i64 (encM m).2) ∧ Mod (fun _ => False) w w' := by
  obtain ⟨W, hW⟩ : ∃ W, w.alloc (.cells (m.cells vn vq).toArray 33) = W := ⟨_, rfl⟩
  have hb : W.heap[w.heap.size]? = some (msgO m vn vq) := by subst hW; exact new_at _ _
  have m0 : Mod (fun _ => False) w W := by subst hW; exact (Mod.refl _ w).alloc _
  have hrg : W.rangeAt w.heap.size 0 (m.cells vn vq) := fun j u hu => by rw [Nat.zero_add, cell_of hb, List.getElem?_toArray]; exact hu
  have hE := encode_any m vn vq P W hk hs (hn.mod m0 (fun _ _ _ x => x)) (hq.mod m0 (fun _ _ _ x => x)) (fun g hg => Nat.lt_of_lt_of_le (hP g hg) m0.size) (hT.mod m0)
  have M0 := Lib.hid m0
  clear m0 hn hq hT hk hs hP
  go_enter Tryz.func17, Tryz.ntmps17
  go_upto_region 1 with (fail)
  refine wp_region_lit ?_
  refine wpList_load_mid rfl 33 (.tmp 1) rfl w.heap.size 0 rfl (m.cells vn vq) _ hrg Tryz.underlying33 rfl (by kernel_rfl) ?_
  refine wpList_plain rfl fun K hK => ?_
  go_simp
  refine hE.mono ?_
  rintro e w1 ⟨rfl, m1⟩
  refine hK _ _ ?_
  have M1 := Lib.hid (M0.out.trans m1)
  clear hK K hE hrg hW hb
  go_wp2
  go_ret
  exact ⟨rfl, M1.out⟩
end Go.Proofs.YtklpopmjpgdjnaaGreatDoor
namespace Go.Proofs.YtklpopmjpgdjnaaGreatDoor
open Go.RowKit

def wM : Msg := { Msg.bare 120 1 with fid := 2 }
def wN : Msg := { Msg.bare 120 0 with name := ⟨#[97]⟩ }
def wS : ByteArray := ⟨#[11, 0, 0, 0, 120, 1, 0, 2, 0, 0, 0]⟩
def wZ : ByteArray := ⟨#[122]⟩
theorem wk_encM : encM wM = (wS, 0) := by kernel_rfl
theorem wk_encN : (encM wN).2 = 2 := by kernel_rfl
theorem wk_cut : cutM (wS ++ wZ) 100 = (wS, wZ, 0) := by kernel_rfl
theorem wk_cut2 : (cutM ⟨#[6, 0, 0, 0]⟩ 100).2.2 = 51 := by kernel_rfl
theorem wM_ok : wM.Ok := ⟨by decide, by decide, by decide, by decide, by decide, by decide, by decide, Qd.zero_ok, fun _ h => (by cases h), by decide, by decide, by decide, by decide, by decide, St.zero_ok⟩
theorem wN_ok : wN.Ok := ⟨by decide, by decide, by decide, by decide, by decide, by decide, by decide, Qd.zero_ok, fun _ h => (by cases h), by decide, by decide, by decide, by decide, by decide, St.zero_ok⟩
theorem wM_small : wM.Small := ⟨by decide, by decide, by decide, by decide, by decide, by decide, ⟨by decide, by decide, by decide, by decide⟩, fun _ h => (by cases h), by decide, by decide⟩
theorem wN_small : wN.Small := ⟨by decide, by decide, by decide, by decide, by decide, by decide, ⟨by decide, by decide, by decide, by decide⟩, fun _ h => (by cases h), by decide, by decide⟩
theorem wk_dec : decM wS = (wM, 0) := by
  have h := dec_encM wM wM_ok (by decide) (by rw [wk_encM])
  rw [wk_encM] at h
  exact h
theorem wpList_guard {P : Program} {w : World} {ops : Array Oper} {rest : List Oper} {o : Oper} {a : Act} {Q : Exit → Act → World → Prop} (hw : Region.wanted o (yielded ops a.tmps) = true)
    (h : ∀ K : Act → World → Prop, (∀ a w, wpList P ops Q rest a w → K a w) → o.wp P a w K Q) : wpList P ops Q (o :: rest) a w :=
  wpList_step fun K hK => by rw [if_pos hw]; exact h K hK
/-- a whole struct loaded under a guard -/
theorem wpList_load_guard {P : Program} {ops : Array Oper} {rest : List Oper} {op : Oper} {a : Act} {w : World} {Q : Exit → Act → World → Prop} (ty : TypeId) (x : Operand) (ho : op.op = .load ty x) (hw : Region.wanted op (yielded ops a.tmps) = true)
    (b o : Nat) (hx : a.eval x = .pointer (some ⟨b, o, none⟩)) (cs : List Value) (d : TypeDesc) (hc : w.rangeAt b o cs)
    (hu : P.underlying ty = some d) (hd : d.isRow = true) (hi : (P.info? ty).map (·.size) = some cs.length)
    (h : wpList P ops Q rest (a.put op.dst (.agg cs.toArray)) w) : wpList P ops Q (op :: rest) a w :=
  wpList_guard hw fun _ hK => wp_load_mid ty x ho b o hx cs d hc hu hd hi (hK _ _ h)
set_option maxHeartbeats 4000000 in
set_option maxRecDepth 100000 in
theorem works24_any (w : World) (hT : Tabs w) : Calls Tryz.prog 8 #[] w fun e w' => e = .returned (.bool true) ∧ Mod (fun _ => False) w w' := by
  have hE1 : ∀ U, Tabs U → Calls Tryz.prog 15 #[.agg (wM.cells (.slice none 0 0) (.slice none 0 0)).toArray] U (fun e w' => e = .returned (.tuple #[.string wS, .int .i64 0]) ∧ Mod (fun _ => False) U w') := fun U hU => by
    have h := encode_any wM (.slice none 0 0) (.slice none 0 0) (fun _ => False) U wM_ok wM_small (.inl ⟨rfl, _, _, rfl⟩) (.inl ⟨rfl, _, _, rfl⟩) (fun _ h => h.elim) hU
    rw [wk_encM] at h
    exact h
  have hE2 : ∀ U, Tabs U → Calls Tryz.prog 15 #[.agg (wN.cells (.slice none 0 0) (.slice none 0 0)).toArray] U (fun e w' => e = .returned (.tuple #[.string (encM wN).1, .int .i64 2]) ∧ Mod (fun _ => False) U w') := fun U hU => by
    have h := encode_any wN (.slice none 0 0) (.slice none 0 0) (fun _ => False) U wN_ok wN_small (.inl ⟨rfl, _, _, rfl⟩) (.inl ⟨rfl, _, _, rfl⟩) (fun _ h => h.elim) hU
    rw [wk_encN] at h
    exact h
  have hM : ∀ U, Tabs U → Calls Tryz.prog 17 #[.agg (wM.cells (.slice none 0 0) (.slice none 0 0)).toArray] U (fun e w' => e = .returned (.int .i64 0) ∧ Mod (fun _ => False) U w') := fun U hU => by
    have h := may_any wM (.slice none 0 0) (.slice none 0 0) (fun _ => False) U wM_ok wM_small (.inl ⟨rfl, _, _, rfl⟩) (.inl ⟨rfl, _, _, rfl⟩) (fun _ h => h.elim) hU
    rw [wk_encM] at h
    exact h
  have hC1 : ∀ U, Calls Tryz.prog 11 #[.string (wS ++ wZ), .int .u32 100] U (fun e w' => e = .returned (.tuple #[.string wS, .string wZ, .int .i64 0]) ∧ Mod (fun _ => False) U w') := fun U => by
    have h := cut_any (wS ++ wZ) 100 U (by decide) (by decide)
    rw [wk_cut] at h
    exact h
  have hC2 : ∀ U, Calls Tryz.prog 11 #[.string ⟨#[6, 0, 0, 0]⟩, .int .u32 100] U (fun e w' => e = .returned (.tuple #[.string (cutM ⟨#[6, 0, 0, 0]⟩ 100).1, .string (cutM ⟨#[6, 0, 0, 0]⟩ 100).2.1, .int .i64 51]) ∧ Mod (fun _ => False) U w') := fun U => by
    have h := cut_any ⟨#[6, 0, 0, 0]⟩ 100 U (by decide) (by decide)
    rw [wk_cut2] at h
    exact h
  have hD : ∀ U, Tabs U → Calls Tryz.prog 9 #[.string wS] U (fun e w' => ∃ vn vq, e = .returned (.tuple #[.agg (wM.cells vn vq).toArray, .int .i64 0]) ∧ SlAt w' (U.heap.size ≤ ·) vn (wM.names.map .string) ∧ RecsAt Qd.cells 3 w' (U.heap.size ≤ ·) vq wM.qids ∧ Mod (fun _ => False) U w') := fun U hU => by
    have h := dec24_any wS U (by decide) hU
    rw [wk_dec] at h
    exact h
  have hSm : ∀ U vn vq (P : Nat → Prop), SlAt U P vn (wM.names.map .string) → RecsAt Qd.cells 3 U P vq wM.qids → Calls Tryz.prog 13 #[.agg (wM.cells vn vq).toArray, .agg (wM.cells (.slice none 0 0) (.slice none 0 0)).toArray] U (fun e w' => e = .returned (.bool true) ∧ Mod (fun _ => False) U w') := fun U vn vq P h1 h2 =>
    same24_any wM vn vq _ _ P (fun _ => False) U wM_ok wM_small h1 h2 (.inl ⟨rfl, _, _, rfl⟩) (.inl ⟨rfl, _, _, rfl⟩)
  have hS1 : (wS.toList == [11, 0, 0, 0, 120, 1, 0, 2, 0, 0, 0]) = true := by kernel_rfl
  have hS2 : (wS.toList == wS.toList) = true := by simp
  have hS3 : wS.size = 11 := rfl
  have hZ1 : (wZ.toList == [122]) = true := by kernel_rfl
  have hZ2 : (⟨#[122]⟩ : ByteArray) = wZ := rfl
  have hcw : (wM.cells (.slice none 0 0) (.slice none 0 0)).length = 36 := rfl
  have hZ3 : wZ.size = 1 := rfl
  generalize (encM wN).1 = nS at *
  generalize (cutM ⟨#[6, 0, 0, 0]⟩ 100).1 = c1S at *
  generalize (cutM ⟨#[6, 0, 0, 0]⟩ 100).2.1 = c2S at *
  generalize wS = S at *
  generalize wZ = Z at *
  obtain ⟨SZ, hSZ⟩ : ∃ SZ, S ++ Z = SZ := ⟨_, rfl⟩
  rw [hSZ] at hC1
  have HT := Lib.hid hT
  clear hT
  go_enter Tryz.func8, Tryz.ntmps8
  go_upto_region 1 with (fail)
  refine wp_region_lit ?_
  refine wpList_plain rfl fun K hK => ?_
  go_simp
  refine hK _ _ ?_
  clear hK K
  refine wpList_plain rfl fun K hK => ?_
  go_simp
  refine hK _ _ ?_
  clear hK K
  refine wpl_store_row rfl 33 (.tmp 1) (.tmp 14) rfl rfl w.heap.size (wM.cells (.slice none 0 0) (.slice none 0 0)) rfl rfl 33 _ (new_at w _) rfl (msg_one _ _ _ rfl rfl) (by kernel_rfl) ?_
  intro V hv2 mv
  refine wpList_nil ?_
  have M1 : Hid (Mod (fun _ => False) w V) := ((Mod.refl (fun _ => False) w).alloc _).trans' mv fun k hk e => by omega
  have HB1 : Hid (V.heap[w.heap.size]? = some (msgO wM (.slice none 0 0) (.slice none 0 0))) := hv2
  clear hv2 mv
  have hrg : V.rangeAt w.heap.size 0 (wM.cells (.slice none 0 0) (.slice none 0 0)) := fun j u hu => by rw [Nat.zero_add, cell_of HB1.out, List.getElem?_toArray]; exact hu
  have hC := hE1 V (HT.out.mod M1.out)
  go_upto_region 2 with (fail)
  refine wp_region_lit ?_
  refine wpList_load_mid rfl 33 (.tmp 1) rfl w.heap.size 0 rfl (wM.cells (.slice none 0 0) (.slice none 0 0)) _ hrg Tryz.underlying33 rfl (by kernel_rfl) ?_
  refine wpList_plain rfl fun K hK => ?_
  go_simp
  refine hC.mono ?_
  rintro e w2 ⟨rfl, m2⟩
  refine hK _ _ ?_
  clear hK K hC hrg hE1
  have M2 := Lib.hid (M1.out.trans m2)
  have HB2 := Lib.hid ((m2.block _ (lt_of HB1.out) (fun x => x)).trans HB1.out)
  have hC := hD w2 (HT.out.mod M2.out)
  clear HB1 M1 m2 hD
  go_wp2_with fail
  refine hC.mono ?_
  rintro e w3 ⟨vn, vq, rfl, hn3, hq3, m3⟩
  clear hC
  have hvn : vn.oneCell' = true := by obtain ⟨a, c, rfl, _⟩ := hn3.form; rfl
  have hvq : vq.oneCell' = true := by obtain ⟨a, c, rfl, _⟩ := hq3.form; rfl
  go_wp2_with (refine wpl_store_row rfl 33 (.tmp 4) (.tmp 23) rfl rfl w3.heap.size (wM.cells vn vq) rfl rfl 33 _ (new_at w3 _) rfl (msg_one _ _ _ hvn hvq) (by kernel_rfl) ?_; intro V4 hv4 mv4)
  have g4 : Mod (fun _ => False) w3 V4 := ((Mod.refl (fun _ => False) w3).alloc _).trans' mv4 fun k hk e => by omega
  have M4 := Lib.hid ((M2.out.trans m3).trans g4)
  have HB4 := Lib.hid (((m3.trans g4).block _ (lt_of HB2.out) (fun x => x)).trans HB2.out)
  have HX4 : Hid (V4.heap[w3.heap.size]? = some (msgO wM vn vq)) := hv4
  have HN4 := Lib.hid (hn3.mod g4 fun _ _ _ x => x)
  have HQ4 := Lib.hid (hq3.mod g4 fun _ _ _ x => x)
  have hC := hE2 V4 (HT.out.mod M4.out)
  obtain ⟨b4, hb4⟩ : ∃ b4, w3.heap.size = b4 := ⟨_, rfl⟩
  rw [hb4] at HX4 ⊢
  clear hv4 mv4 g4 hn3 hq3 HB2 M2 m3 hE2
  refine hC.mono ?_
  rintro e w5 ⟨rfl, m5⟩
  clear hC
  go_wp2_with fail
  refine (hC1 _).mono ?_
  rintro e w6 ⟨rfl, m6⟩
  clear hC1
  go_wp2_with fail
  refine (hC2 _).mono ?_
  rintro e w7 ⟨rfl, m7⟩
  clear hC2
  have g7 := (m5.trans m6).trans m7
  have M7 := Lib.hid (M4.out.trans g7)
  have hb7 := (g7.block _ (lt_of HB4.out) (fun x => x)).trans HB4.out
  have hx7 := (g7.block _ (lt_of HX4.out) (fun x => x)).trans HX4.out
  have hr1 : w7.rangeAt w.heap.size 0 (wM.cells (.slice none 0 0) (.slice none 0 0)) := fun j u hu => by rw [Nat.zero_add, cell_of hb7, List.getElem?_toArray]; exact hu
  have hr4 : w7.rangeAt b4 0 (wM.cells vn vq) := fun j u hu => by rw [Nat.zero_add, cell_of hx7, List.getElem?_toArray]; exact hu
  have hC := hSm w7 vn vq _ (HN4.out.mod g7 fun _ _ _ x => x) (HQ4.out.mod g7 fun _ _ _ x => x)
  have HB7 := Lib.hid hb7
  have hMy := fun U (hU : Mod (fun _ => False) w U) => hM U (HT.out.mod hU)
  have hrk : ∀ U, Mod (fun _ => False) w7 U → U.rangeAt w.heap.size 0 (wM.cells (.slice none 0 0) (.slice none 0 0)) := fun U hU j u hu => by rw [Nat.zero_add, cell_of ((hU.block _ (lt_of HB7.out) (fun x => x)).trans HB7.out), List.getElem?_toArray]; exact hu
  clear hb7 hx7 g7 m5 m6 m7 HB4 HX4 HN4 HQ4 M4 hSm hM
  go_wp2_with (first
    | (refine wpList_load_guard 33 (.tmp 4) rfl rfl b4 0 rfl (wM.cells vn vq) _ hr4 Tryz.underlying33 rfl (by kernel_rfl) ?_)
    | (refine wpList_load_guard 33 (.tmp 1) rfl rfl w.heap.size 0 rfl (wM.cells (.slice none 0 0) (.slice none 0 0)) _ hr1 Tryz.underlying33 rfl (by kernel_rfl) ?_)
    | (go_at_call 13; refine hC.mono ?_; rintro e w8 ⟨rfl, m8⟩; have hr8 := hrk _ m8)
    | (refine wpList_load_guard 33 (.tmp 1) rfl rfl w.heap.size 0 rfl (wM.cells (.slice none 0 0) (.slice none 0 0)) _ hr8 Tryz.underlying33 rfl (by kernel_rfl) ?_)
    | (go_at_call 17; refine (hMy _ (M7.out.trans m8)).mono ?_; rintro e w9 ⟨rfl, m9⟩))
  go_ret
  exact ⟨rfl, (M7.out.trans m8).trans m9⟩
end Go.Proofs.YtklpopmjpgdjnaaGreatDoor
