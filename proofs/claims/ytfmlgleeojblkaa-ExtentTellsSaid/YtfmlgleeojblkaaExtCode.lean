/- An extent's bytes, written and read: Encode, Decode, and the document's. -/
import Derived.Test.YtfmlgleeojblkaaExt
import Derived.Test.YtfmlgleeojblkaaExtRef
import Derived.Test.YtfmlgleeojblkaaPut
import Derived.Test.YtfmlgleeojblkaaRd2
import Derived.Test.YtfmlgleeojblkaaRef
import Derived.Deep.RegionHeld3
import Derived.Test.YtfmlgleeojblkaaRegionHold
import Derived.Deep.CutRange
import Derived.Deep.DeepCutAuto
namespace Go.Proofs.Ytfmlgleeojblkaa
open Go.RowKit

def encR (X c : Int) : ByteArray × Int := if mayB X c = true then (bs (leBytes 1 (c + 1).toNat ++ leBytes 4 X.toNat), 0) else (ByteArray.empty, 2)
def decR (s : ByteArray) : (Int × Int) × Int :=
  if s.size < 5 then ((0, 0), 50) else if 5 < s.size then ((0, 0), 51) else
  if mayB (leNat (s.extract 1 5).data.toList) ((leNat (s.extract 0 1).data.toList : Int) - 1) = true then (((leNat (s.extract 1 5).data.toList : Int), (leNat (s.extract 0 1).data.toList : Int) - 1), 0) else ((0, 0), 51)

theorem may_lim {X c : Int} (h : mayB X c = true) : 0 ≤ X ∧ X ≤ 16384 ∧ -1 ≤ c ∧ c ≤ 4 := by
  have := nblk_cases c
  simp only [mayB, Bool.or_eq_true, Bool.and_eq_true, decide_eq_true_eq] at h
  omega

set_option maxHeartbeats 1000000 in
theorem enc_any (X c : Int) (w : World) (hX : -9223372036854775808 ≤ X ∧ X ≤ 9223372036854775807) (hc : -9223372036854775808 ≤ c ∧ c ≤ 9223372036854775807) : Calls Try.prog 25 #[.agg #[.int .i64 X, .int .i64 c]] w fun e w' =>
    e = .returned (.tuple #[.string (encR X c).1, .int .i64 (encR X c).2]) ∧ Mod (fun _ => False) w w' := by
  obtain ⟨W, hW⟩ : ∃ W, w.alloc (.cells #[.int .i64 X, .int .i64 c] 23) = W := ⟨_, rfl⟩
  have hb : W.heap[w.heap.size]? = some (.cells #[.int .i64 X, .int .i64 c] 23 (0, 0)) := by subst hW; exact new_at _ _
  have hm : Mod (fun _ => False) w W := by subst hW; exact (Mod.refl _ w).alloc _
  have d0 : W.cell? ⟨w.heap.size, 0, none⟩ = some (.int .i64 X) := (cell_of hb 0).trans rfl
  have d1 : W.cell? ⟨w.heap.size, 1, none⟩ = some (.int .i64 c) := (cell_of hb 1).trans rfl
  have hmay := fun W => may_any X c W hX hc
  cases hmb : mayB X c with
  | false =>
    have hv : encR X c = (ByteArray.empty, 2) := by unfold encR; rw [if_neg (by rw [hmb]; decide)]
    rw [hmb] at hmay
    go_enter Try.func25, Try.ntmps25
    go_wp2_with fail
    refine (hmay _).mono ?_
    rintro e w2 ⟨rfl, m2⟩
    go_wp2
    go_ret2
    exact ⟨by rw [hv]; rfl, hm.trans m2⟩
  | true =>
    have hl := may_lim hmb
    have hv : encR X c = (bs (leBytes 1 (c + 1).toNat ++ leBytes 4 X.toNat), 0) := by unfold encR; rw [if_pos hmb]
    rw [hmb] at hmay
    go_enter Try.func25, Try.ntmps25
    go_wp2_with fail
    refine (hmay _).mono ?_
    rintro e w2 ⟨rfl, m2⟩
    have hS0 : w2.drew.cell? ⟨w.heap.size, 0, none⟩ = some (.int .i64 X) ∧ w2.drew.cell? ⟨w.heap.size, 1, none⟩ = some (.int .i64 c) := by
      have hb2 := (m2.block _ (lt_of hb) (fun x => x)).trans hb
      exact ⟨(cell_of hb2 0).trans rfl, (cell_of hb2 1).trans rfl⟩
    have hSk : ∀ (U V : World), (U.cell? ⟨w.heap.size, 0, none⟩ = some (.int .i64 X) ∧ U.cell? ⟨w.heap.size, 1, none⟩ = some (.int .i64 c)) → Mod (fun _ => False) U V → (V.cell? ⟨w.heap.size, 0, none⟩ = some (.int .i64 X) ∧ V.cell? ⟨w.heap.size, 1, none⟩ = some (.int .i64 c)) := by
      rintro U V ⟨h1, h2⟩ hm
      exact ⟨(World.cell?_of_block (a := ⟨w.heap.size, 0, none⟩) (hm.block _ (World.block_lt_of_cell? _ _ h1) (fun x => x))).trans h1, (World.cell?_of_block (a := ⟨w.heap.size, 1, none⟩) (hm.block _ (World.block_lt_of_cell? _ _ h2) (fun x => x))).trans h2⟩
    have hm2 := hm.trans m2
    clear hmay m2
    go_wp2
    refine wp_onlyN ?_
    go_region_held_law (fun w' => w'.cell? ⟨w.heap.size, 0, none⟩ = some (.int .i64 X) ∧ w'.cell? ⟨w.heap.size, 1, none⟩ = some (.int .i64 c)) (first | assumption | exact hSk _ _ (by assumption) m3 | exact hSk _ _ (by assumption) m4) (first
      | (go_at_call 40; refine (wU8 (c + 1).toNat _ (by simp only [IntKind.wrap_u8, IntKind.wrap_i64]; omega) _).mono ?_; rintro e w3 ⟨rfl, m3⟩)
      | (go_at_call 41; refine (wU32 X.toNat _ (by simp only [IntKind.wrap_u32]; omega) _).mono ?_; rintro e w4 ⟨rfl, m4⟩))
    refine onlyN_out ?_
    go_wp2
    go_ret2
    exact ⟨by rw [hv, bs_cat]; rfl, (hm2.trans (Mod.ofDrew m3)).trans m4⟩

theorem rd_short (s : ByteArray) (h : s.size < 5) : (((⟨s, 0, 0⟩ : Rd).num 1).2.num 4).2.f = 50 := by
  by_cases h1 : s.size < 1
  · have e : ((⟨s, 0, 0⟩ : Rd).num 1).2 = ⟨s, 0, 50⟩ := by
      simp only [Rd.num, Rd.bytes]
      rw [if_neg (by decide), if_neg (by decide), if_pos (by simpa using h1)]
    rw [e]
    simp [Rd.num, Rd.bytes]
  · have e : ((⟨s, 0, 0⟩ : Rd).num 1).2 = ⟨s, 1, 0⟩ := by
      simp only [Rd.num, Rd.bytes]
      rw [if_neg (by decide), if_neg (by decide), if_neg (by simpa using h1)]
      rfl
    rw [e]
    simp only [Rd.num, Rd.bytes]
    rw [if_neg (by decide), if_neg (by decide), if_pos (by show s.size < 1 + 4; omega)]
theorem rd_ok (s : ByteArray) (h : 5 ≤ s.size) : (⟨s, 0, 0⟩ : Rd).num 1 = (leNat (s.extract 0 1).data.toList, ⟨s, 1, 0⟩) ∧ (⟨s, 1, 0⟩ : Rd).num 4 = (leNat (s.extract 1 5).data.toList, ⟨s, 5, 0⟩) := by
  constructor
  · simp only [Rd.num, Rd.bytes]
    rw [if_neg (by decide), if_neg (by decide), if_neg (by show ¬ s.size < 0 + 1; omega)]
    rfl
  · simp only [Rd.num, Rd.bytes]
    rw [if_neg (by decide), if_neg (by decide), if_neg (by show ¬ s.size < 1 + 4; omega)]
    rfl

theorem code_new (s : ByteArray) (w : World) : Calls Try.prog 43 #[.string s] w fun e w' => e = .returned (.pointer (some ⟨w.heap.size, 0, none⟩)) ∧ w'.heap[w.heap.size]? = some (rdO ⟨s, 0, 0⟩) ∧ Mod (fun _ => False) w w' := by
  go_enter Try.func43, Try.ntmps43
  go_wp2
  go_ret
  exact ⟨by first | rfl | trivial, new_at _ _, (Mod.refl _ w).alloc _⟩

set_option maxHeartbeats 2000000 in
theorem dec_any (s : ByteArray) (w : World) (hs : s.size ≤ maxLen) : Calls Try.prog 27 #[.string s] w fun e w' =>
    e = .returned (.tuple #[.agg #[.int .i64 (decR s).1.1, .int .i64 (decR s).1.2], .int .i64 (decR s).2]) ∧ Mod (fun _ => False) w w' := by
  obtain ⟨W, hW⟩ : ∃ W, w.alloc (.cells #[.int .i64 0, .int .i64 0] 23) = W := ⟨_, rfl⟩
  have hb : W.heap[w.heap.size]? = some (.cells #[.int .i64 0, .int .i64 0] 23 (0, 0)) := by subst hW; exact new_at _ _
  have hm : Mod (fun _ => False) w W := by subst hW; exact (Mod.refl _ w).alloc _
  have hsz : W.heap.size = w.heap.size + 1 := by subst hW; simp
  have hn1 : ((⟨s, 0, 0⟩ : Rd).num 1).1 < 256 := Rd.num_lt _ 1
  have hn2 : (((⟨s, 0, 0⟩ : Rd).num 1).2.num 4).1 < 4294967296 := Rd.num_lt _ 4
  have hsh := rd_short s
  have hok := rd_ok s
  have hs1 : ((⟨s, 0, 0⟩ : Rd).num 1).2.s = s := Rd.num_s _ 1
  have ha1 : ((⟨s, 0, 0⟩ : Rd).num 1).2.at_ ≤ ((⟨s, 0, 0⟩ : Rd).num 1).2.s.size := Rd.num_at _ 1 (Nat.zero_le _)
  have hs2 : (((⟨s, 0, 0⟩ : Rd).num 1).2.num 4).2.s = s := (Rd.num_s _ 4).trans hs1
  have ha2 : (((⟨s, 0, 0⟩ : Rd).num 1).2.num 4).2.at_ ≤ (((⟨s, 0, 0⟩ : Rd).num 1).2.num 4).2.s.size := Rd.num_at _ 4 ha1
  have hU := fun b W h => U8_any b ⟨s, 0, 0⟩ W h hs (Nat.zero_le _)
  have hV := fun b W h => U32_any b ((⟨s, 0, 0⟩ : Rd).num 1).2 W h (by rw [hs1]; exact hs) ha1
  have hE := fun b W h => end_any b (((⟨s, 0, 0⟩ : Rd).num 1).2.num 4).2 W h (by rw [hs2]; exact hs) ha2
  have hEv : (((⟨s, 0, 0⟩ : Rd).num 1).2.num 4).2.end_ = if (((⟨s, 0, 0⟩ : Rd).num 1).2.num 4).2.f ≠ 0 then (((⟨s, 0, 0⟩ : Rd).num 1).2.num 4).2.f else if (((⟨s, 0, 0⟩ : Rd).num 1).2.num 4).2.at_ < (((⟨s, 0, 0⟩ : Rd).num 1).2.num 4).2.s.size then 51 else 0 := rfl
  rw [hs2] at hEv
  have hok' : 5 ≤ s.size → ((⟨s, 0, 0⟩ : Rd).num 1).1 = leNat (s.extract 0 1).data.toList ∧ (((⟨s, 0, 0⟩ : Rd).num 1).2.num 4).1 = leNat (s.extract 1 5).data.toList ∧ (((⟨s, 0, 0⟩ : Rd).num 1).2.num 4).2.f = 0 ∧ (((⟨s, 0, 0⟩ : Rd).num 1).2.num 4).2.at_ = 5 := fun h => by
    obtain ⟨h1, h2⟩ := hok h
    rw [h1]
    simp only
    rw [h2]
    refine ⟨?_, ?_, ?_, ?_⟩ <;> first | rfl | trivial
  clear hok ha1 ha2 hs1 hs2
  generalize (((⟨s, 0, 0⟩ : Rd).num 1).2.num 4).1 = q2 at *
  generalize (((⟨s, 0, 0⟩ : Rd).num 1).2.num 4).2 = r2 at *
  generalize ((⟨s, 0, 0⟩ : Rd).num 1).1 = q1 at *
  generalize ((⟨s, 0, 0⟩ : Rd).num 1).2 = r1 at *
  go_enter Try.func27, Try.ntmps27
  go_wp2_with fail
  refine (code_new s _).mono ?_
  rintro e w1 ⟨rfl, h1, m1⟩
  obtain ⟨b, hbb⟩ : ∃ b, W.heap.size = b := ⟨_, rfl⟩
  rw [hbb] at h1 ⊢
  go_wp2_with fail
  refine (hU b _ h1).mono ?_
  rintro e w2 ⟨rfl, h2, m2⟩
  go_wp2_with fail
  refine (hV b _ h2).mono ?_
  rintro e w3 ⟨rfl, h3, m3⟩
  have H3 := Lib.hid h3
  have HM3 : Hid (Mod (fun k => k = b) W w3) := ((m1.mono (fun _ _ x => x.elim)).trans m2).trans m3
  clear h1 h2 h3 m1 m2 m3 hU hV
  obtain ⟨W4, hW4⟩ : ∃ W4, w3.alloc (.cells #[.int .i64 q2, .int .i64 ((q1 : Int) - 1)] 23) = W4 := ⟨_, rfl⟩
  have m4 : Mod (fun _ => False) w3 W4 := by subst hW4; exact (Mod.refl _ _).alloc _
  have HX4 : Hid (W4.heap[w3.heap.size]? = some (.cells #[.int .i64 q2, .int .i64 ((q1 : Int) - 1)] 23 (0, 0))) := by subst hW4; exact new_at _ _
  have H4 := Lib.hid ((m4.block _ (lt_of H3.out) (fun x => x)).trans H3.out)
  have hwb : w.heap.size < b := by omega
  have HR4 := Lib.hid ((m4.block _ (Nat.lt_of_lt_of_le (lt_of hb) HM3.out.size) (fun x => x)).trans ((HM3.out.block _ (lt_of hb) (fun e => by omega)).trans hb))
  have HM4 : Hid (Mod (fun _ => False) w W4) := (hm.trans' HM3.out (fun j hj e => by omega)).trans m4
  have hl3 : w.heap.size < w3.heap.size := by have := HM3.out.size; omega
  clear H3 HM3 m4 hb hm hbb
  go_wp2_with fail
  refine (fault_any b r2 _ H4.out).mono ?_
  rintro e w5 ⟨rfl, rfl⟩
  by_cases hz : s.size < 5
  · have hf := hsh hz
    have hv : decR s = ((0, 0), 50) := by unfold decR; rw [if_pos hz]
    have t1 : (r2.f != 0) = true := by rw [hf]; decide
    have r0 : (W4).cell? ⟨w.heap.size, 0, none⟩ = some (.int .i64 0) := (cell_of (HR4).out 0).trans rfl
    have r1 : (W4).cell? ⟨w.heap.size, 1, none⟩ = some (.int .i64 0) := (cell_of (HR4).out 1).trans rfl
    have rf0 : (W4).frozen? ⟨w.heap.size, 0, none⟩ = false := free_of (HR4).out 0
    have rf1 : (W4).frozen? ⟨w.heap.size, 1, none⟩ = false := free_of (HR4).out 1
    go_wp2
    obtain ⟨W6, hW6⟩ : ∃ W6, (((W4).setCell ⟨w.heap.size, 0, none⟩ (.int .i64 0)).setCell ⟨w.heap.size, 1, none⟩ (.int .i64 0)) = W6 := ⟨_, rfl⟩
    have h6 : W6.heap[w.heap.size]? = some (.cells #[.int .i64 0, .int .i64 0] 23 (0, 0)) := by subst hW6; exact heap_set (heap_set (HR4).out 0 _) 1 _
    have hm6 : Mod (· = w.heap.size) W4 W6 := by subst hW6; exact (Mod.set1 _ _ 0 _).trans (Mod.set1 _ _ 1 _)
    rw [hW6]
    have z0 : W6.cell? ⟨w.heap.size, 0, none⟩ = some (.int .i64 0) := (cell_of h6 0).trans rfl
    have z1 : W6.cell? ⟨w.heap.size, 1, none⟩ = some (.int .i64 0) := (cell_of h6 1).trans rfl
    refine bodyPost_ret (v := .tuple #[.agg #[.int .i64 0, .int .i64 0], .int .i64 50]) ?_ rfl ⟨by first | (rw [hv]; done) | rfl, (HM4).out.trans' hm6 (fun j hj e => by omega)⟩
    simp [results, Try.f27, go_sem, z0, z1]
  · obtain ⟨e1, e2, hf, hat⟩ := hok' (by omega)
    have t1 : (r2.f != 0) = false := by rw [hf]; decide
    rw [hf, if_neg (by decide), hat] at hEv
    by_cases hz5 : 5 < s.size
    · have hv : decR s = ((0, 0), 51) := by unfold decR; rw [if_neg hz, if_pos hz5]
      rw [if_pos hz5] at hEv
      rw [hEv] at hE
      clear e1 e2
      go_wp2_with fail
      refine (hE b _ H4.out).mono ?_
      rintro e w6 ⟨rfl, nd, rfl⟩
      have HRd : Hid ((W4.drewN nd).heap[w.heap.size]? = some (.cells #[.int .i64 0, .int .i64 0] 23 (0, 0))) := HR4.out
      have HMd : Hid (Mod (fun _ => False) w (W4.drewN nd)) := HM4.out.drewN nd
      have r0 : ((W4.drewN nd)).cell? ⟨w.heap.size, 0, none⟩ = some (.int .i64 0) := (cell_of (HRd).out 0).trans rfl
      have r1 : ((W4.drewN nd)).cell? ⟨w.heap.size, 1, none⟩ = some (.int .i64 0) := (cell_of (HRd).out 1).trans rfl
      have rf0 : ((W4.drewN nd)).frozen? ⟨w.heap.size, 0, none⟩ = false := free_of (HRd).out 0
      have rf1 : ((W4.drewN nd)).frozen? ⟨w.heap.size, 1, none⟩ = false := free_of (HRd).out 1
      go_wp2
      obtain ⟨W6, hW6⟩ : ∃ W6, ((((W4.drewN nd)).setCell ⟨w.heap.size, 0, none⟩ (.int .i64 0)).setCell ⟨w.heap.size, 1, none⟩ (.int .i64 0)) = W6 := ⟨_, rfl⟩
      have h6 : W6.heap[w.heap.size]? = some (.cells #[.int .i64 0, .int .i64 0] 23 (0, 0)) := by subst hW6; exact heap_set (heap_set (HRd).out 0 _) 1 _
      have hm6 : Mod (· = w.heap.size) (W4.drewN nd) W6 := by subst hW6; exact (Mod.set1 _ _ 0 _).trans (Mod.set1 _ _ 1 _)
      rw [hW6]
      have z0 : W6.cell? ⟨w.heap.size, 0, none⟩ = some (.int .i64 0) := (cell_of h6 0).trans rfl
      have z1 : W6.cell? ⟨w.heap.size, 1, none⟩ = some (.int .i64 0) := (cell_of h6 1).trans rfl
      refine bodyPost_ret (v := .tuple #[.agg #[.int .i64 0, .int .i64 0], .int .i64 51]) ?_ rfl ⟨by first | (rw [hv]; done) | rfl, (HMd).out.trans' hm6 (fun j hj e => by omega)⟩
      simp [results, Try.f27, go_sem, z0, z1]
    · rw [if_neg hz5] at hEv
      rw [hEv] at hE
      have hmay := fun W => may_any (q2 : Int) ((q1 : Int) - 1) W (by omega) (by omega)
      have hv0 : decR s = if mayB q2 ((q1 : Int) - 1) = true then (((q2 : Int), (q1 : Int) - 1), 0) else ((0, 0), 51) := by
        unfold decR
        rw [if_neg hz, if_neg hz5, e1, e2]
      clear e1 e2
      go_wp2_with fail
      refine (hE b _ H4.out).mono ?_
      rintro e w6 ⟨rfl, nd, rfl⟩
      have x0 : (W4.drewN nd).cell? ⟨w3.heap.size, 0, none⟩ = some (.int .i64 q2) := (cell_of (w := W4.drewN nd) HX4.out 0).trans rfl
      have x1 : (W4.drewN nd).cell? ⟨w3.heap.size, 1, none⟩ = some (.int .i64 ((q1 : Int) - 1)) := (cell_of (w := W4.drewN nd) HX4.out 1).trans rfl
      cases hmb : mayB q2 ((q1 : Int) - 1) with
      | false =>
        rw [hmb] at hmay hv0
        have hv : decR s = ((0, 0), 51) := by rw [hv0]; rfl
        go_wp2_with fail
        refine (hmay _).mono ?_
        rintro e w7 ⟨rfl, m7⟩
        have HR7 := Lib.hid ((m7.block w.heap.size (lt_of HR4.out) (fun x => x)).trans HR4.out)
        have HM7 := Lib.hid ((HM4.out.drewN nd).trans m7)
        have r0 : (w7).cell? ⟨w.heap.size, 0, none⟩ = some (.int .i64 0) := (cell_of (HR7).out 0).trans rfl
        have r1 : (w7).cell? ⟨w.heap.size, 1, none⟩ = some (.int .i64 0) := (cell_of (HR7).out 1).trans rfl
        have rf0 : (w7).frozen? ⟨w.heap.size, 0, none⟩ = false := free_of (HR7).out 0
        have rf1 : (w7).frozen? ⟨w.heap.size, 1, none⟩ = false := free_of (HR7).out 1
        go_wp2
        obtain ⟨W6, hW6⟩ : ∃ W6, (((w7).setCell ⟨w.heap.size, 0, none⟩ (.int .i64 0)).setCell ⟨w.heap.size, 1, none⟩ (.int .i64 0)) = W6 := ⟨_, rfl⟩
        have h6 : W6.heap[w.heap.size]? = some (.cells #[.int .i64 0, .int .i64 0] 23 (0, 0)) := by subst hW6; exact heap_set (heap_set (HR7).out 0 _) 1 _
        have hm6 : Mod (· = w.heap.size) w7 W6 := by subst hW6; exact (Mod.set1 _ _ 0 _).trans (Mod.set1 _ _ 1 _)
        rw [hW6]
        have z0 : W6.cell? ⟨w.heap.size, 0, none⟩ = some (.int .i64 0) := (cell_of h6 0).trans rfl
        have z1 : W6.cell? ⟨w.heap.size, 1, none⟩ = some (.int .i64 0) := (cell_of h6 1).trans rfl
        refine bodyPost_ret (v := .tuple #[.agg #[.int .i64 0, .int .i64 0], .int .i64 51]) ?_ rfl ⟨by first | (rw [hv]; done) | rfl, (HM7).out.trans' hm6 (fun j hj e => by omega)⟩
        simp [results, Try.f27, go_sem, z0, z1]
      | true =>
        rw [hmb] at hmay hv0
        have hv : decR s = (((q2 : Int), (q1 : Int) - 1), 0) := by rw [hv0]; rfl
        go_wp2_with fail
        refine (hmay _).mono ?_
        rintro e w7 ⟨rfl, m7⟩
        have HR7 := Lib.hid ((m7.block w.heap.size (lt_of HR4.out) (fun x => x)).trans HR4.out)
        have HX7 := Lib.hid ((m7.block w3.heap.size (lt_of HX4.out) (fun x => x)).trans HX4.out)
        have HM7 := Lib.hid ((HM4.out.drewN nd).trans m7)
        have y0 : w7.cell? ⟨w3.heap.size, 0, none⟩ = some (.int .i64 q2) := (cell_of HX7.out 0).trans rfl
        have y1 : w7.cell? ⟨w3.heap.size, 1, none⟩ = some (.int .i64 ((q1 : Int) - 1)) := (cell_of HX7.out 1).trans rfl
        clear x0 x1
        have r0 : (w7).cell? ⟨w.heap.size, 0, none⟩ = some (.int .i64 0) := (cell_of (HR7).out 0).trans rfl
        have r1 : (w7).cell? ⟨w.heap.size, 1, none⟩ = some (.int .i64 0) := (cell_of (HR7).out 1).trans rfl
        have rf0 : (w7).frozen? ⟨w.heap.size, 0, none⟩ = false := free_of (HR7).out 0
        have rf1 : (w7).frozen? ⟨w.heap.size, 1, none⟩ = false := free_of (HR7).out 1
        go_wp2
        obtain ⟨W6, hW6⟩ : ∃ W6, (((w7).setCell ⟨w.heap.size, 0, none⟩ (.int .i64 q2)).setCell ⟨w.heap.size, 1, none⟩ (.int .i64 ((q1 : Int) - 1))) = W6 := ⟨_, rfl⟩
        have h6 : W6.heap[w.heap.size]? = some (.cells #[.int .i64 q2, .int .i64 ((q1 : Int) - 1)] 23 (0, 0)) := by subst hW6; exact heap_set (heap_set (HR7).out 0 _) 1 _
        have hm6 : Mod (· = w.heap.size) w7 W6 := by subst hW6; exact (Mod.set1 _ _ 0 _).trans (Mod.set1 _ _ 1 _)
        rw [hW6]
        have z0 : W6.cell? ⟨w.heap.size, 0, none⟩ = some (.int .i64 q2) := (cell_of h6 0).trans rfl
        have z1 : W6.cell? ⟨w.heap.size, 1, none⟩ = some (.int .i64 ((q1 : Int) - 1)) := (cell_of h6 1).trans rfl
        refine bodyPost_ret (v := .tuple #[.agg #[.int .i64 q2, .int .i64 ((q1 : Int) - 1)], .int .i64 0]) ?_ rfl ⟨by first | (rw [hv]; done) | rfl, (HM7).out.trans' hm6 (fun j hj e => by omega)⟩
        simp [results, Try.f27, go_sem, z0, z1]

set_option maxHeartbeats 2000000 in
theorem rdec_any (s : ByteArray) (w : World) (hs : s.size ≤ maxLen) : Calls Try.prog 28 #[.string s] w fun e w' =>
    e = .returned (.tuple #[.agg #[.int .i64 (decR s).1.1, .int .i64 (decR s).1.2], .int .i64 (decR s).2]) ∧ Mod (fun _ => False) w w' := by
  obtain ⟨W, hW⟩ : ∃ W, w.alloc (.cells #[.int .i64 0, .int .i64 0] 23) = W := ⟨_, rfl⟩
  have hb : W.heap[w.heap.size]? = some (.cells #[.int .i64 0, .int .i64 0] 23 (0, 0)) := by subst hW; exact new_at _ _
  have hm : Mod (fun _ => False) w W := by subst hW; exact (Mod.refl _ w).alloc _
  have hsz : W.heap.size = w.heap.size + 1 := by subst hW; simp
  have HB := Lib.hid hb
  have HM := Lib.hid hm
  have hs' := hs
  unfold maxLen at hs'
  go_enter Try.func28, Try.ntmps28
  by_cases hz : s.size < 5
  · have hv : decR s = ((0, 0), 50) := by unfold decR; rw [if_pos hz]
    have t1 : decide ((s.size : Int) < 5) = true := by simp; omega
    have r0 : (W).cell? ⟨w.heap.size, 0, none⟩ = some (.int .i64 0) := (cell_of (HB).out 0).trans rfl
    have r1 : (W).cell? ⟨w.heap.size, 1, none⟩ = some (.int .i64 0) := (cell_of (HB).out 1).trans rfl
    have rf0 : (W).frozen? ⟨w.heap.size, 0, none⟩ = false := free_of (HB).out 0
    have rf1 : (W).frozen? ⟨w.heap.size, 1, none⟩ = false := free_of (HB).out 1
    go_wp2
    obtain ⟨W6, hW6⟩ : ∃ W6, (((W).setCell ⟨w.heap.size, 0, none⟩ (.int .i64 0)).setCell ⟨w.heap.size, 1, none⟩ (.int .i64 0)) = W6 := ⟨_, rfl⟩
    have h6 : W6.heap[w.heap.size]? = some (.cells #[.int .i64 0, .int .i64 0] 23 (0, 0)) := by subst hW6; exact heap_set (heap_set (HB).out 0 _) 1 _
    have hm6 : Mod (· = w.heap.size) W W6 := by subst hW6; exact (Mod.set1 _ _ 0 _).trans (Mod.set1 _ _ 1 _)
    rw [hW6]
    have z0 : W6.cell? ⟨w.heap.size, 0, none⟩ = some (.int .i64 0) := (cell_of h6 0).trans rfl
    have z1 : W6.cell? ⟨w.heap.size, 1, none⟩ = some (.int .i64 0) := (cell_of h6 1).trans rfl
    refine bodyPost_ret (v := .tuple #[.agg #[.int .i64 0, .int .i64 0], .int .i64 50]) ?_ rfl ⟨by first | (rw [hv]; done) | rfl, (HM).out.trans' hm6 (fun j hj e => by omega)⟩
    simp [results, Try.f28, go_sem, z0, z1]
  have t1 : decide ((s.size : Int) < 5) = false := by simp; omega
  by_cases hz5 : 5 < s.size
  · have hv : decR s = ((0, 0), 51) := by unfold decR; rw [if_neg hz, if_pos hz5]
    have t2 : decide (5 < (s.size : Int)) = true := by simp; omega
    have r0 : (W).cell? ⟨w.heap.size, 0, none⟩ = some (.int .i64 0) := (cell_of (HB).out 0).trans rfl
    have r1 : (W).cell? ⟨w.heap.size, 1, none⟩ = some (.int .i64 0) := (cell_of (HB).out 1).trans rfl
    have rf0 : (W).frozen? ⟨w.heap.size, 0, none⟩ = false := free_of (HB).out 0
    have rf1 : (W).frozen? ⟨w.heap.size, 1, none⟩ = false := free_of (HB).out 1
    go_wp2
    obtain ⟨W6, hW6⟩ : ∃ W6, (((W).setCell ⟨w.heap.size, 0, none⟩ (.int .i64 0)).setCell ⟨w.heap.size, 1, none⟩ (.int .i64 0)) = W6 := ⟨_, rfl⟩
    have h6 : W6.heap[w.heap.size]? = some (.cells #[.int .i64 0, .int .i64 0] 23 (0, 0)) := by subst hW6; exact heap_set (heap_set (HB).out 0 _) 1 _
    have hm6 : Mod (· = w.heap.size) W W6 := by subst hW6; exact (Mod.set1 _ _ 0 _).trans (Mod.set1 _ _ 1 _)
    rw [hW6]
    have z0 : W6.cell? ⟨w.heap.size, 0, none⟩ = some (.int .i64 0) := (cell_of h6 0).trans rfl
    have z1 : W6.cell? ⟨w.heap.size, 1, none⟩ = some (.int .i64 0) := (cell_of h6 1).trans rfl
    refine bodyPost_ret (v := .tuple #[.agg #[.int .i64 0, .int .i64 0], .int .i64 51]) ?_ rfl ⟨by first | (rw [hv]; done) | rfl, (HM).out.trans' hm6 (fun j hj e => by omega)⟩
    simp [results, Try.f28, go_sem, z0, z1]
  have t2 : decide (5 < (s.size : Int)) = false := by simp; omega
  obtain ⟨h1, h2⟩ := rd_ok s (by omega)
  obtain ⟨q2, hq2⟩ : ∃ q2, leNat (s.extract 1 5).data.toList = q2 := ⟨_, rfl⟩
  have hn2 : ((⟨s, 1, 0⟩ : Rd).num 4).1 < 4294967296 := Rd.num_lt _ 4
  rw [h2] at hn2
  obtain ⟨q1, hq1⟩ : ∃ q1, leNat (s.extract 0 1).data.toList = q1 := ⟨_, rfl⟩
  have hv0 : decR s = if mayB q2 ((q1 : Int) - 1) = true then (((q2 : Int), (q1 : Int) - 1), 0) else ((0, 0), 51) := by
    unfold decR
    rw [if_neg hz, if_neg hz5, hq1, hq2]
  have hc0 : (s[0]'(by omega)).toNat = q1 := by
    rw [← hq1]
    have : (s.extract 0 1).data.toList = [s[0]'(by omega)] := by
      rw [ByteArray.data_extract, Array.toList_extract]
      obtain ⟨⟨l⟩⟩ := s
      cases l with
      | nil => exact absurd (show 0 < 5 by decide) hz
      | cons a r => rfl
    rw [this]; simp [leNat]
  have hN := fun b W h => rNum b ⟨s, 1, 0⟩ 4 4 rfl W h hs (by show 1 ≤ s.size; omega) (by omega)
  rw [h2] at hN
  simp only [hq2] at hn2 hN
  clear h1 h2 hq1 hq2
  obtain ⟨W1, hW1⟩ : ∃ W1, W.alloc (.cells #[.string s, .int .i64 1, .int .i64 0] 93) = W1 := ⟨_, rfl⟩
  have m1 : Mod (fun _ => False) W W1 := by subst hW1; exact (Mod.refl _ W).alloc _
  have hb1 : W1.heap[W.heap.size]? = some (rrO ⟨s, 1, 0⟩) := by subst hW1; exact new_at _ _
  have HR1 := Lib.hid ((m1.block _ (lt_of hb) (fun x => x)).trans hb)
  have HM1 := Lib.hid (hm.trans m1)
  rw [hsz] at hb1
  have HB1 : Hid (W1.drew.heap[w.heap.size + 1]? = some (rrO ⟨s, 1, 0⟩)) := hb1
  have hl1 := lt_of hb1
  clear hb hm hb1
  have hpos : 0 < s.size := by omega
  have hpos2 : (0 : Int) < s.size := by omega
  have hq1l : q1 < 256 := by rw [← hc0]; exact (s[0]'(by omega)).toNat_lt
  have hw1 : IntKind.i64.wrap (q1 : Int) = q1 := by rw [IntKind.wrap_i64]; omega
  have hw2 : IntKind.i64.wrap ((q1 : Int) - 1) = (q1 : Int) - 1 := by rw [IntKind.wrap_i64]; omega
  have hw3 : IntKind.i64.wrap (q2 : Int) = q2 := by rw [IntKind.wrap_i64]; omega
  go_upto_region 6 with (fail)
  go_cut [5] (fun p wc => ∃ q, p = .pointer (some ⟨q, 0, none⟩) ∧ Hid (wc.heap[q]? = some (.cells #[.int .i64 q2, .int .i64 ((q1 : Int) - 1)] 23 (0, 0))) ∧ Hid (Mod (fun _ => False) w wc) ∧ Hid (wc.heap[w.heap.size]? = some (.cells #[.int .i64 0, .int .i64 0] 23 (0, 0))))
  case first =>
    go_region_held3 (fun _ => True) (exact trivial) (first
      | (go_at_call 48; refine (hN _ _ (by first | exact HB1.out | exact ((((Mod.refl (fun _ => False) W1.drew).alloc _).block _ (lt_of HB1.out) (fun x => x))).trans HB1.out)).mono ?_; rintro e w3 ⟨rfl, h3, m3⟩; first | (have qb : w3.heap[W1.heap.size]? = some (.cells #[.int .i64 0, .int .i64 0] 23 (0, 0)) := (m3.block W1.heap.size (by simp) (by omega)).trans (new_at W1.drew _); have q0 : w3.cell? ⟨W1.heap.size, 0, none⟩ = some (.int .i64 0) := (cell_of qb 0).trans rfl; have q1' : w3.cell? ⟨W1.heap.size, 1, none⟩ = some (.int .i64 0) := (cell_of qb 1).trans rfl; have q2' : w3.frozen? ⟨W1.heap.size, 0, none⟩ = false := free_of qb 0; have q3 : w3.frozen? ⟨W1.heap.size, 1, none⟩ = false := free_of qb 1) | skip))
    all_goals first
      | (have hm5 : Mod (fun _ => False) w w3 := HM1.out.trans' (Mod.ofDrew m3) (fun j hj e => by omega)
         have hr5 := (m3.block w.heap.size (lt_of HR1.out) (fun e => by omega)).trans HR1.out
         clear h3 m3
         go_wp2_with fail
         go_meet
         case rel => exact ⟨_, rfl, new_at _ _, hm5.alloc _, alloc_keep hr5⟩)
      | (have hm5 : Mod (fun k => k = w.heap.size + 1) W1 w3 := (((Mod.refl _ W1).alloc _).drew).trans m3
         have hm6 : Mod (fun _ => False) w w3 := HM1.out.trans' hm5 (fun j hj e => by omega)
         have hr5 := (hm5.block w.heap.size (lt_of HR1.out) (fun e => by omega)).trans HR1.out
         clear h3 m3
         go_wp2_with fail
         go_meet
         case rel => exact ⟨_, rfl, heap_set (heap_set qb 0 _) 1 _, (hm6.setCell (p := ⟨W1.heap.size, 0, none⟩) (Or.inr (by show w.heap.size ≤ W1.heap.size; omega)) _).setCell (p := ⟨W1.heap.size, 1, none⟩) (Or.inr (by show w.heap.size ≤ W1.heap.size; omega)) _, (((Mod.set1 w3 W1.heap.size 0 _).trans (Mod.set1 _ W1.heap.size 1 _)).block w.heap.size (lt_of hr5) (by omega)).trans hr5⟩)
  case rest =>
    obtain ⟨q, rfl, HX4, HM4, HR4⟩ := hcut
    have hwc := lt_of HR4.out
    have hmay := fun W => rmay_any (q2 : Int) ((q1 : Int) - 1) W
    have x0 : wc.cell? ⟨q, 0, none⟩ = some (.int .i64 q2) := (cell_of HX4.out 0).trans rfl
    have x1 : wc.cell? ⟨q, 1, none⟩ = some (.int .i64 ((q1 : Int) - 1)) := (cell_of HX4.out 1).trans rfl
    clear HR1 HB1 HM1 HB HM hN
    cases hmb : mayB q2 ((q1 : Int) - 1) with
    | false =>
      rw [hmb] at hmay hv0
      have hv : decR s = ((0, 0), 51) := by rw [hv0]; rfl
      go_wp2_with fail
      refine (hmay _).mono ?_
      rintro e w7 ⟨rfl, m7⟩
      have HR7 := Lib.hid ((m7.block w.heap.size (lt_of HR4.out) (fun x => x)).trans HR4.out)
      have HM7 := Lib.hid (HM4.out.trans m7)
      have r0 : (w7).cell? ⟨w.heap.size, 0, none⟩ = some (.int .i64 0) := (cell_of (HR7).out 0).trans rfl
      have r1 : (w7).cell? ⟨w.heap.size, 1, none⟩ = some (.int .i64 0) := (cell_of (HR7).out 1).trans rfl
      have rf0 : (w7).frozen? ⟨w.heap.size, 0, none⟩ = false := free_of (HR7).out 0
      have rf1 : (w7).frozen? ⟨w.heap.size, 1, none⟩ = false := free_of (HR7).out 1
      go_wp2
      obtain ⟨W6, hW6⟩ : ∃ W6, (((w7).setCell ⟨w.heap.size, 0, none⟩ (.int .i64 0)).setCell ⟨w.heap.size, 1, none⟩ (.int .i64 0)) = W6 := ⟨_, rfl⟩
      have h6 : W6.heap[w.heap.size]? = some (.cells #[.int .i64 0, .int .i64 0] 23 (0, 0)) := by subst hW6; exact heap_set (heap_set (HR7).out 0 _) 1 _
      have hm6 : Mod (· = w.heap.size) w7 W6 := by subst hW6; exact (Mod.set1 _ _ 0 _).trans (Mod.set1 _ _ 1 _)
      rw [hW6]
      have z0 : W6.cell? ⟨w.heap.size, 0, none⟩ = some (.int .i64 0) := (cell_of h6 0).trans rfl
      have z1 : W6.cell? ⟨w.heap.size, 1, none⟩ = some (.int .i64 0) := (cell_of h6 1).trans rfl
      refine bodyPost_ret (v := .tuple #[.agg #[.int .i64 0, .int .i64 0], .int .i64 51]) ?_ rfl ⟨by first | (rw [hv]; done) | rfl, (HM7).out.trans' hm6 (fun j hj e => by omega)⟩
      simp [results, Try.f28, go_sem, z0, z1]
    | true =>
      rw [hmb] at hmay hv0
      have hv : decR s = (((q2 : Int), (q1 : Int) - 1), 0) := by rw [hv0]; rfl
      go_wp2_with fail
      refine (hmay _).mono ?_
      rintro e w7 ⟨rfl, m7⟩
      have HR7 := Lib.hid ((m7.block w.heap.size (lt_of HR4.out) (fun x => x)).trans HR4.out)
      have HX7 := Lib.hid ((m7.block q (lt_of HX4.out) (fun x => x)).trans HX4.out)
      have HM7 := Lib.hid (HM4.out.trans m7)
      have y0 : w7.cell? ⟨q, 0, none⟩ = some (.int .i64 q2) := (cell_of HX7.out 0).trans rfl
      have y1 : w7.cell? ⟨q, 1, none⟩ = some (.int .i64 ((q1 : Int) - 1)) := (cell_of HX7.out 1).trans rfl
      clear x0 x1
      have r0 : (w7).cell? ⟨w.heap.size, 0, none⟩ = some (.int .i64 0) := (cell_of (HR7).out 0).trans rfl
      have r1 : (w7).cell? ⟨w.heap.size, 1, none⟩ = some (.int .i64 0) := (cell_of (HR7).out 1).trans rfl
      have rf0 : (w7).frozen? ⟨w.heap.size, 0, none⟩ = false := free_of (HR7).out 0
      have rf1 : (w7).frozen? ⟨w.heap.size, 1, none⟩ = false := free_of (HR7).out 1
      go_wp2
      obtain ⟨W6, hW6⟩ : ∃ W6, (((w7).setCell ⟨w.heap.size, 0, none⟩ (.int .i64 q2)).setCell ⟨w.heap.size, 1, none⟩ (.int .i64 ((q1 : Int) - 1))) = W6 := ⟨_, rfl⟩
      have h6 : W6.heap[w.heap.size]? = some (.cells #[.int .i64 q2, .int .i64 ((q1 : Int) - 1)] 23 (0, 0)) := by subst hW6; exact heap_set (heap_set (HR7).out 0 _) 1 _
      have hm6 : Mod (· = w.heap.size) w7 W6 := by subst hW6; exact (Mod.set1 _ _ 0 _).trans (Mod.set1 _ _ 1 _)
      rw [hW6]
      have z0 : W6.cell? ⟨w.heap.size, 0, none⟩ = some (.int .i64 q2) := (cell_of h6 0).trans rfl
      have z1 : W6.cell? ⟨w.heap.size, 1, none⟩ = some (.int .i64 ((q1 : Int) - 1)) := (cell_of h6 1).trans rfl
      refine bodyPost_ret (v := .tuple #[.agg #[.int .i64 q2, .int .i64 ((q1 : Int) - 1)], .int .i64 0]) ?_ rfl ⟨by first | (rw [hv]; done) | rfl, (HM7).out.trans' hm6 (fun j hj e => by omega)⟩
      simp [results, Try.f28, go_sem, z0, z1]
set_option maxRecDepth 20000 in
set_option maxHeartbeats 1000000 in
theorem renc_any (X c : Int) (w : World) (hX : -9223372036854775808 ≤ X ∧ X ≤ 9223372036854775807) (hc : -9223372036854775808 ≤ c ∧ c ≤ 9223372036854775807) : Calls Try.prog 26 #[.agg #[.int .i64 X, .int .i64 c]] w fun e w' =>
    e = .returned (.tuple #[.string (encR X c).1, .int .i64 (encR X c).2]) ∧ Mod (fun _ => False) w w' := by
  obtain ⟨W, hW⟩ : ∃ W, w.alloc (.cells #[.int .i64 X, .int .i64 c] 23) = W := ⟨_, rfl⟩
  have hb : W.heap[w.heap.size]? = some (.cells #[.int .i64 X, .int .i64 c] 23 (0, 0)) := by subst hW; exact new_at _ _
  have hm : Mod (fun _ => False) w W := by subst hW; exact (Mod.refl _ w).alloc _
  have d0 : W.cell? ⟨w.heap.size, 0, none⟩ = some (.int .i64 X) := (cell_of hb 0).trans rfl
  have d1 : W.cell? ⟨w.heap.size, 1, none⟩ = some (.int .i64 c) := (cell_of hb 1).trans rfl
  have hmay := fun W => rmay_any X c W
  cases hmb : mayB X c with
  | false =>
    have hv : encR X c = (ByteArray.empty, 2) := by unfold encR; rw [if_neg (by rw [hmb]; decide)]
    rw [hmb] at hmay
    go_enter Try.func26, Try.ntmps26
    go_wp2_with fail
    refine (hmay _).mono ?_
    rintro e w2 ⟨rfl, m2⟩
    go_wp2
    go_ret2
    exact ⟨by rw [hv]; rfl, hm.trans m2⟩
  | true =>
    have hl := may_lim hmb
    obtain ⟨x, rfl⟩ : ∃ x : Nat, X = x := ⟨X.toNat, by omega⟩
    have hv : encR x c = (bs (leBytes 1 (c + 1).toNat ++ leBytes 4 x), 0) := by unfold encR; rw [if_pos hmb, Int.toNat_natCast]
    rw [hmb] at hmay
    go_enter Try.func26, Try.ntmps26
    go_wp2_with fail
    refine (hmay _).mono ?_
    rintro e w2 ⟨rfl, m2⟩
    have hS0 : w2.drew.cell? ⟨w.heap.size, 0, none⟩ = some (.int .i64 x) ∧ w2.drew.cell? ⟨w.heap.size, 1, none⟩ = some (.int .i64 c) := by
      have hb2 := (m2.block _ (lt_of hb) (fun x => x)).trans hb
      exact ⟨(cell_of hb2 0).trans rfl, (cell_of hb2 1).trans rfl⟩
    have hSk : ∀ (U V : World), (U.cell? ⟨w.heap.size, 0, none⟩ = some (.int .i64 x) ∧ U.cell? ⟨w.heap.size, 1, none⟩ = some (.int .i64 c)) → Mod (fun _ => False) U V → (V.cell? ⟨w.heap.size, 0, none⟩ = some (.int .i64 x) ∧ V.cell? ⟨w.heap.size, 1, none⟩ = some (.int .i64 c)) := by
      rintro U V ⟨h1, h2⟩ hm
      exact ⟨(World.cell?_of_block (a := ⟨w.heap.size, 0, none⟩) (hm.block _ (World.block_lt_of_cell? _ _ h1) (fun x => x))).trans h1, (World.cell?_of_block (a := ⟨w.heap.size, 1, none⟩) (hm.block _ (World.block_lt_of_cell? _ _ h2) (fun x => x))).trans h2⟩
    have hm2 := hm.trans m2
    clear hmay m2
    have hw1 : IntKind.i64.wrap (c + 1) = c + 1 := by rw [IntKind.wrap_i64]; omega
    have hw2 : IntKind.u8.wrap (c + 1) = c + 1 := by rw [IntKind.wrap_u8]; omega
    have hw3 : IntKind.u64.wrap (x : Int) = x := by rw [IntKind.wrap_u64]; omega
    have hcv : ∀ (V : World) (b : Nat), V.heap[b]? = some (.cells #[.int .u8 (c + 1)] 5 (0, 0)) → (convert 79 9 (.slice (some ⟨b, 0, none⟩) 1 1)).run Try.prog V = .ok (.string (bs (leBytes 1 (c + 1).toNat))) V := by
      intro V b hb
      refine conv_string V 79 9 5 b 0 1 (leBytes 1 (c + 1).toNat) 1 (leBytes_length _ _).symm Try.underlying79 Try.underlying5 Try.underlying9 fun j hj => ?_
      rw [leBytes_length] at hj
      obtain rfl : j = 0 := by omega
      rw [cell_of hb]
      have := leBytes_get 1 (c + 1).toNat 0 (by rw [leBytes_length]; omega)
      rw [this]
      show some (Value.int .u8 (c + 1)) = some (Value.int .u8 (((c + 1).toNat / 2 ^ (8 * 0) % 256 : Nat) : Int))
      congr 2
      omega
    have hcv1 := hcv (w2.alloc (.cells #[.int .u8 (c + 1)] 5)).drew w2.heap.size (new_at w2 _)
    go_wp2
    refine wp_onlyN ?_
    go_region_held_law (fun w' => w'.cell? ⟨w.heap.size, 0, none⟩ = some (.int .i64 x) ∧ w'.cell? ⟨w.heap.size, 1, none⟩ = some (.int .i64 c)) (first | assumption | exact hSk _ _ (by assumption) m4 | exact hSk _ _ (by assumption) ((Mod.refl (fun _ => False) _).alloc _)) (first
      | (go_at_call 42; refine (rnum_any x 4 4 rfl _ (by omega) (by omega)).mono ?_; rintro e w4 ⟨rfl, m4⟩; have hcv3 := hcv (w4.alloc (.cells #[.int .u8 (c + 1)] 5)) w4.heap.size (new_at w4 _); first | (have hcv2 := hcv w4 w2.heap.size ((m4.block w2.heap.size (by simp) (fun x => x)).trans (new_at w2 _))) | skip))
    all_goals refine onlyN_out ?_
    all_goals first
      | (have hm5 := hm2.trans ((((Mod.refl (fun _ => False) w2).alloc _).drew).trans m4)
         go_wp2
         go_ret2
         exact ⟨by rw [hv, bs_cat]; rfl, hm5⟩)
      | (have hm5 := hm2.trans (Mod.ofDrew m4)
         go_wp2
         go_ret2
         exact ⟨by rw [hv, bs_cat]; rfl, hm5.alloc _⟩)

theorem dec_enc {X c : Int} (h : mayB X c = true) : decR (encR X c).1 = ((X, c), 0) := by
  have hl := may_lim h
  have he : (encR X c).1 = bs (leBytes 1 (c + 1).toNat ++ leBytes 4 X.toNat) := by unfold encR; rw [if_pos h]
  have hl1 := leBytes_length 1 (c + 1).toNat
  have hl4 := leBytes_length 4 X.toNat
  have hsz : (encR X c).1.size = 5 := by rw [he, bs_size, List.length_append, hl1, hl4]
  have e1 : ((encR X c).1.extract 0 1).data.toList = leBytes 1 (c + 1).toNat := by
    rw [he, ByteArray.data_extract, Array.toList_extract, bs_data]
    simp [hl1]
  have e2 : ((encR X c).1.extract 1 5).data.toList = leBytes 4 X.toNat := by
    rw [he, ByteArray.data_extract, Array.toList_extract, bs_data]
    simp [hl1]
    exact List.take_of_length_le (by omega)
  have n1 : (leNat (leBytes 1 (c + 1).toNat) : Int) - 1 = c := by rw [leNat_leBytes]; omega
  have n2 : (leNat (leBytes 4 X.toNat) : Int) = X := by rw [leNat_leBytes]; omega
  unfold decR
  rw [hsz, if_neg (by decide), if_neg (by decide), e1, e2, n1, n2, if_pos h]
end Go.Proofs.Ytfmlgleeojblkaa
