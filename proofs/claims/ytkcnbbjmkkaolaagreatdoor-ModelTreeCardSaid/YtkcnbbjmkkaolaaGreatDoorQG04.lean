/- The document's tree: Write.
   The document's tree in memory: a path given, a file put behind, kids set.
   A region that draws its order, whose last operation comes up behind all others: walk the others first (whatever they do), then the last one. -/
import Derived.Test.YtkcnbbjmkkaolaaGreatDoorQG03
import Derived.Test.YtkcnbbjmkkaolaaGreatDoorQG00
import Derived.Test.YtkcnbbjmkkaolaaGreatDoorQG01
import Derived.Deep.RegionHeldLaw
set_option linter.unusedVariables false
set_option linter.unusedSimpArgs false
namespace Go.Proofs.YtkcnbbjmkkaolaaGreatDoor
open Go.RowKit

theorem sized_list (s : ByteArray) (n : Nat) : (sizedB s n).data.toList = (s.data.toList ++ List.replicate (n - s.size) 0).take n := by
  have hl : s.data.toList.length = s.size := Array.length_toList
  unfold sizedB
  by_cases h : n ≤ s.size
  · rw [if_pos h, ext_list, List.drop_zero, Nat.sub_eq_zero_of_le h, List.replicate_zero, List.append_nil]
  · rw [if_neg h, List.take_of_length_le (by rw [List.length_append, hl, List.length_replicate]; omega), ByteArray.data_append, Array.toList_append, bs_data]
theorem sized_size (s : ByteArray) (n : Nat) : (sizedB s n).size = n := by
  have h : (sizedB s n).data.toList.length = (sizedB s n).size := Array.length_toList
  have hl : s.data.toList.length = s.size := Array.length_toList
  rw [← h, sized_list, List.length_take, List.length_append, hl, List.length_replicate]
  omega
/-- what the document writes -/
def writeR (s : ByteArray) (off : Nat) (d : ByteArray) : ByteArray :=
  (sizedB s (max s.size off)).extract 0 off ++ d ++ (if off + d.size < (sizedB s (max s.size off)).size then (sizedB s (max s.size off)).extract (off + d.size) (sizedB s (max s.size off)).size else ByteArray.empty)
theorem writeR_eq (s : ByteArray) (off : Nat) (d : ByteArray) : writeR s off d = writeB s off d := by
  have hl : s.data.toList.length = s.size := Array.length_toList
  apply bytes_eqL
  unfold writeR writeB
  rw [sized_size]
  simp only [ByteArray.data_append, Array.toList_append]
  rw [ext_list, ext_list, ext_list, sized_list, sized_list, List.drop_zero, List.drop_zero]
  congr 1
  · congr 1
    rw [List.take_take, List.take_take, Nat.min_eq_left (by omega), Nat.min_eq_left (by omega)]
    by_cases h : off ≤ s.size
    · rw [List.take_append_of_le_length (by omega), List.take_append_of_le_length (by omega)]
    · rw [List.take_append, List.take_append, List.take_replicate, List.take_replicate, hl]
      congr 2
      omega
  · rw [List.take_of_length_le (l := List.take _ _) (by rw [List.length_take]; omega)]
    by_cases h : off + d.size < max s.size off
    · rw [if_pos h, ext_list, sized_list, List.take_of_length_le (l := List.take _ _) (by rw [List.length_take]; omega)]
      have h2 : off + d.size < s.size := by omega
      rw [Nat.max_eq_left (by omega), Nat.max_eq_left (by omega)]
    · rw [if_neg h]
      symm
      apply List.eq_nil_of_length_eq_zero
      rw [List.length_drop, List.length_take, List.length_append, hl, List.length_replicate]
      show _ = 0
      omega
theorem writeB_size (s : ByteArray) (off : Nat) (d : ByteArray) : (writeB s off d).size = max s.size (off + d.size) := by
  unfold writeB
  rw [ByteArray.size_append, ByteArray.size_append, ByteArray.size_extract, ByteArray.size_extract, sized_size]
  omega
def WPost (F : Nat → Prop) (b g cap : Nat) (vks : Nat → Value) (R : Tr × Nat × Int) (w : World) (e : Ending) (w' : World) : Prop := e = .returned (.tuple #[.int .u32 R.2.1, .int .i64 R.2.2]) ∧ RTreeP w' F b R.1 g cap vks ∧ Mod F w w'
set_option maxHeartbeats 4000000 in
set_option maxRecDepth 100000 in
theorem rWrite_any (F : Nat → Prop) (b g cap : Nat) (T : Tr) (vks : Nat → Value) (p off : Nat) (d who : ByteArray) (now : Nat) (w : World) (h : RTreeP w F b T g cap vks) (hwf : WF T) (ho : off < 18446744073709551616) (hds : d.size ≤ 140737488355328) :
    Calls Tryz.prog 44 #[.pointer (some ⟨b, 0, none⟩), .int .u64 p, .int .u64 off, .string d, .string who, .int .u32 now] w (WPost F b g cap vks (writeT T p off d who now) w) := by
  have hl := hwf.len
  have hR := h.rv
  have hA := at_any b g cap T vks p w hR hl
  have HS : Hid (writeT T p off d who now = match look T.L p with | none => (T, 0, 180) | some n => if n.dir = true then (T, 0, 181) else if 7168 < off + d.size then (T, 0, 4) else if d.size = 0 then (T, 0, 0) else ({ T with L := updN T.L p fun n => Nd.touch { n with data := writeB n.data off d } who now }, d.size, 0)) := rfl
  have c0 := hR.c0
  have hcap := hR.cap
  have H := Lib.hid h
  have HR := Lib.hid hR
  have hK : ∀ z : Int, writeT T p off d who now = (T, 0, z) → WPost F b g cap vks (writeT T p off d who now) w (.returned (.tuple #[.int .u32 0, .int .i64 z])) w := fun z hz => by
    rw [hz]; exact ⟨rfl, H.out, Mod.refl _ _⟩
  have HK := Lib.hid hK
  clear h hR hK
  cases hlk : look T.L p with
  | none =>
    rw [atI_none hlk] at hA
    have HV : Hid (writeT T p off d who now = (T, 0, 180)) := by show _ = _; rw [HS.out, hlk]
    clear HS hlk
    go_enter Tryz.func44, Tryz.ntmps44
    go_wp2_with fail
    refine hA.mono ?_
    rintro e w1 ⟨rfl, rfl⟩
    clear hA
    go_wp2
    go_ret2
    exact HK.out _ HV.out
  | some n =>
    obtain ⟨i, hi, hn, hil⟩ := look_get hlk
    rw [atI_some hi] at hA
    have t1 : decide ((i : Int) < 0) = false := by simp
    have HS2 : Hid (writeT T p off d who now = if n.dir = true then (T, 0, 181) else if 7168 < off + d.size then (T, 0, 4) else if d.size = 0 then (T, 0, 0) else ({ T with L := updN T.L p fun n => Nd.touch { n with data := writeB n.data off d } who now }, d.size, 0)) := by show _ = _; rw [HS.out, hlk]
    have hno := hwf.ok n (List.mem_of_getElem? hn)
    have e1 : w.cell? ⟨g, i * 13 + 1, none⟩ = some (.bool n.dir) := HR.out.el i n hn 1 _ rfl
    have e11 : w.cell? ⟨g, i * 13 + 11, none⟩ = some (.string n.data) := HR.out.el i n hn 11 _ rfl
    have i1 : (0 : Int) ≤ (i : Int) := by omega
    have i2 : (i : Int) < (T.L.length : Int) := by omega
    have i3 : (T.L.length : Int) ≤ (cap : Int) := by omega
    clear HS
    cases hd : n.dir with
    | true =>
      rw [hd] at e1
      have HV : Hid (writeT T p off d who now = (T, 0, 181)) := HS2.out.trans (if_pos hd)
      clear HS2 hd hlk
      go_enter Tryz.func44, Tryz.ntmps44
      go_wp2_with fail
      refine hA.mono ?_
      rintro e w1 ⟨rfl, rfl⟩
      clear hA
      go_wp2
      go_ret2
      exact HK.out _ HV.out
    | false =>
    rw [hd] at e1
    have HS3 := Lib.hid (HS2.out.trans (if_neg (by rw [hd]; simp)))
    clear HS2 hd hlk
    by_cases hbig : 7168 < off + d.size
    · have HV : Hid (writeT T p off d who now = (T, 0, 4)) := HS3.out.trans (if_pos hbig)
      clear HS3
      by_cases h1 : 7168 < off
      · have t2 : decide (7168 < (off : Int)) = true := by simp; omega
        have t2' : decide (7168 < off) = true := by simp; omega
        go_enter Tryz.func44, Tryz.ntmps44
        go_wp2_with fail
        refine hA.mono ?_
        rintro e w1 ⟨rfl, rfl⟩
        clear hA
        go_wp2
        go_ret2
        exact HK.out _ HV.out
      have t2 : decide (7168 < (off : Int)) = false := by simp; omega
      have t2' : decide (7168 < off) = false := by simp; omega
      by_cases h2 : 7168 < d.size
      · have t3 : decide (7168 < (d.size : Int)) = true := by simp; omega
        have t3' : decide (7168 < d.size) = true := by simp; omega
        go_enter Tryz.func44, Tryz.ntmps44
        go_wp2_with fail
        refine hA.mono ?_
        rintro e w1 ⟨rfl, rfl⟩
        clear hA
        go_wp2
        go_ret2
        exact HK.out _ HV.out
      have t3 : decide (7168 < (d.size : Int)) = false := by simp; omega
      have t3' : decide (7168 < d.size) = false := by simp; omega
      have t4 : decide (7168 < (off : Int) + (d.size : Int)) = true := by simp; omega
      have hw : IntKind.i64.wrap (off : Int) = off := by rw [IntKind.wrap_i64]; omega
      go_enter Tryz.func44, Tryz.ntmps44
      go_wp2_with fail
      refine hA.mono ?_
      rintro e w1 ⟨rfl, rfl⟩
      clear hA
      go_wp2
      go_ret2
      exact HK.out _ HV.out
    have HS4 := Lib.hid (HS3.out.trans (if_neg hbig))
    clear HS3
    have t2 : decide (7168 < (off : Int)) = false := by simp; omega
    have t2' : decide (7168 < off) = false := by simp; omega
    have t3 : decide (7168 < (d.size : Int)) = false := by simp; omega
    have t3' : decide (7168 < d.size) = false := by simp; omega
    have t4 : decide (7168 < (off : Int) + (d.size : Int)) = false := by simp; omega
    have hw : IntKind.i64.wrap (off : Int) = off := by rw [IntKind.wrap_i64]; omega
    by_cases hdz : d.size = 0
    · have HV : Hid (writeT T p off d who now = (T, 0, 0)) := HS4.out.trans (if_pos hdz)
      have qE : d.toList.isEmpty = true := by rw [empty_beq]; simpa using hdz
      clear HS4
      go_enter Tryz.func44, Tryz.ntmps44
      go_wp2_with fail
      refine hA.mono ?_
      rintro e w1 ⟨rfl, rfl⟩
      clear hA
      go_wp2
      go_ret2
      exact HK.out _ HV.out
    have qE : d.toList.isEmpty = false := by rw [empty_beq]; simpa using hdz
    have HS5 := Lib.hid (HS4.out.trans (if_neg hdz))
    clear HS4 HK
    have hdl := hno.data
    obtain ⟨s, hs⟩ : ∃ s, n.data = s := ⟨_, rfl⟩
    rw [hs] at e11 hdl
    have hmx : max (s.size : Int) (off : Int) = ((max s.size off : Nat) : Int) := by omega
    have hSz := fun U => rsized_any s (max s.size off) U (by omega) (by omega)
    have hszz := sized_size s (max s.size off)
    have HWR := Lib.hid (writeR_eq s off d)
    unfold writeR at HWR
    generalize hN : max s.size off = N at *
    generalize sizedB s N = z at *
    have hHs := Lib.hid hs
    clear hs
    go_enter Tryz.func44, Tryz.ntmps44
    go_wp2_with fail
    refine hA.mono ?_
    rintro e w1 ⟨rfl, rfl⟩
    clear hA
    go_upto_region 10 with (fail)
    go_cut [15] from 47 to 67 (fun v wc => v = .string z ∧ Hid (Mod (fun _ => False) w wc))
    case first =>
      refine wp_region_held_drew (S := fun w' => Hid (Mod (fun _ => False) w w')) (by kernel_rfl) (Lib.hid (Mod.refl (fun _ => False) w).drew) (fun hHeld => ?_)
      refine hT 0 rfl (fun _ _ => by go_simp; all_goals with_reducible rfl) ?_
      try simp only [gA, gB, gC, Act.put, sA, sB, sC]
      refine hT 1 rfl (fun _ _ => by go_simp; all_goals with_reducible rfl) ?_
      try simp only [gA, gB, gC, Act.put, sA, sB, sC]
      refine hT 2 rfl (fun _ _ => by go_simp; all_goals with_reducible rfl) ?_
      try simp only [gA, gB, gC, Act.put, sA, sB, sC]
      refine hT 3 rfl (fun wH hSw => by have cH := keepN hSw.out c0; clear hSw; go_simp; all_goals with_reducible rfl) ?_
      try simp only [gA, gB, gC, Act.put, sA, sB, sC]
      refine hT 4 rfl (fun _ _ => by go_simp; all_goals with_reducible rfl) ?_
      try simp only [gA, gB, gC, Act.put, sA, sB, sC]
      refine hT 5 rfl (fun _ _ => by go_simp; all_goals with_reducible rfl) ?_
      try simp only [gA, gB, gC, Act.put, sA, sB, sC]
      refine hT 6 rfl (fun _ _ => by go_simp; all_goals with_reducible rfl) ?_
      try simp only [gA, gB, gC, Act.put, sA, sB, sC]
      refine hT 7 rfl (fun wH hSw => by have cH := keepN hSw.out e11; clear hSw; go_simp; all_goals with_reducible rfl) ?_
      try simp only [gA, gB, gC, Act.put, sA, sB, sC]
      refine hT 8 rfl (fun _ _ => by go_simp; all_goals with_reducible rfl) ?_
      try simp only [gA, gB, gC, Act.put, sA, sB, sC]
      refine hT 9 rfl (fun _ _ => by go_simp; all_goals with_reducible rfl) ?_
      try simp only [gA, gB, gC, Act.put, sA, sB, sC]
      refine hT 10 rfl (fun _ _ => by go_simp; all_goals with_reducible rfl) ?_
      try simp only [gA, gB, gC, Act.put, sA, sB, sC]
      refine hT 11 rfl (fun wH hSw => by have cH := keepN hSw.out c0; clear hSw; go_simp; all_goals with_reducible rfl) ?_
      try simp only [gA, gB, gC, Act.put, sA, sB, sC]
      refine hT 12 rfl (fun _ _ => by go_simp; all_goals with_reducible rfl) ?_
      try simp only [gA, gB, gC, Act.put, sA, sB, sC]
      refine hT 13 rfl (fun _ _ => by go_simp; all_goals with_reducible rfl) ?_
      try simp only [gA, gB, gC, Act.put, sA, sB, sC]
      refine hT 14 rfl (fun _ _ => by go_simp; all_goals with_reducible rfl) ?_
      try simp only [gA, gB, gC, Act.put, sA, sB, sC]
      refine hT 15 rfl (fun wH hSw => by have cH := keepN hSw.out e11; clear hSw; go_simp; all_goals with_reducible rfl) ?_
      try simp only [gA, gB, gC, Act.put, sA, sB, sC]
      refine hT 16 rfl (fun _ _ => by go_simp; all_goals with_reducible rfl) ?_
      try simp only [gA, gB, gC, Act.put, sA, sB, sC]
      refine hT 17 rfl (fun _ _ => by go_simp; all_goals with_reducible rfl) ?_
      try simp only [gA, gB, gC, Act.put, sA, sB, sC]
      refine hT 18 rfl (fun _ _ => by go_simp; all_goals with_reducible rfl) ?_
      try simp only [gA, gB, gC, Act.put, sA, sB, sC]
      refine hT 19 rfl (fun _ _ => by go_simp; all_goals with_reducible rfl) ?_
      try simp only [gA, gB, gC, Act.put, sA, sB, sC]
      refine hR1 20 rfl fun K hK => ?_
      go_simp
      refine (hSz _).mono ?_
      rintro e w4 ⟨rfl, m4⟩
      refine hK.out _ _ (Lib.hid (hHeld.out.trans m4)) ?_; clear hK K hHeld; intro hHeld
      try simp only [gA, gB, gC, Act.put, sA, sB, sC]
      refine hT 21 rfl (fun _ _ => by go_simp; all_goals with_reducible rfl) ?_
      try simp only [gA, gB, gC, Act.put, sA, sB, sC]
      refine wpAnyH_done (by kernel_rfl) ?_ _
      go_wp2
      go_meet
      case rel => exact ⟨rfl, hHeld.out⟩
    case rest =>
    obtain ⟨rfl, HM⟩ := hcut
    have b1 : (0 : Int) ≤ (off : Int) := by omega
    have b2 : (off : Int) ≤ z.size := by omega
    have b2' : off ≤ z.size := by omega
    have hzl : z.size ≤ 7168 := by omega
    have HSZ := Lib.hid hszz
    clear hszz
    by_cases hr : off + d.size < z.size
    · have t5 : decide ((off : Int) + (d.size : Int) < (z.size : Int)) = true := by simp; omega
      have b3 : (0 : Int) ≤ (off : Int) + (d.size : Int) := by omega
      have b4 : (off : Int) + (d.size : Int) ≤ z.size := by omega
      have b4' : off + d.size ≤ z.size := by omega
      obtain ⟨r, hre⟩ : ∃ r, z.extract (off + d.size) z.size = r := ⟨_, rfl⟩
      have hwr : z.extract 0 off ++ d ++ r = writeB s off d := by rw [← HWR.out, if_pos hr, hre]
      have hrl : r.size ≤ 7168 := by rw [← hre, ByteArray.size_extract]; omega
      have HW2 : Hid (z.extract 0 off ++ d ++ r = writeB s off d) := hwr
      have hno1 : ¬ 9223372036854775807 < (z.extract 0 off).size + d.size := by rw [ByteArray.size_extract]; omega
      have hno3 : ¬ 9223372036854775807 < off + d.size := by omega
      have hno4 : ¬ 9223372036854775807 < off + d.size + r.size := by omega
      have hno2 : ¬ 9223372036854775807 < (z.extract 0 off ++ d).size + r.size := by rw [ByteArray.size_append, ByteArray.size_extract]; omega
      obtain ⟨nd, hnd⟩ : ∃ nd, z.extract 0 off ++ d ++ r = nd := ⟨_, rfl⟩
      have hRc := H.out.mod HM.out (fun _ x => x.elim)
      have HV : Hid (writeT T p off d who now = ({ T with L := T.L.set i (Nd.touch { n with data := nd } who now) }, d.size, 0)) := by
        show _ = _
        rw [HS5.out, stat_upd hwf.rise hi hn, hHs.out, ← HW2.out, hnd]
      obtain ⟨W1, hW1⟩ : ∃ W1, wc.setCell ⟨g, i * 13 + 11, none⟩ (.string nd) = W1 := ⟨_, rfl⟩
      obtain ⟨h1, m1⟩ := hRc.set (n' := { n with data := nd }) hn rfl 11 (.string nd) (by decide) rfl
      rw [hW1] at h1 m1
      have hTo := rtouch_any F b g cap _ vks p i { n with data := nd } who now W1.drew (h1.mod ((Mod.refl (fun _ => False) W1).drew) (fun _ x => x.elim)) (by show (T.L.set i _).length ≤ 1024; rw [List.length_set]; exact hl) (idx_set hi hn rfl) (get_set hil) hno.ver
      simp only [List.set_set] at hTo
      have HM1 : Hid (Mod F w W1.drew) := ((HM.out.mono fun _ _ x => x.elim).trans (m1.mono fun k _ e => by rw [e]; exact H.out.fg)).drew
      have c0c := hRc.rv.c0
      have e11c : wc.cell? ⟨g, i * 13 + 11, none⟩ = some (.string n.data) := hRc.rv.el i n hn 11 _ rfl
      have z11 : wc.frozen? ⟨g, i * 13 + 11, none⟩ = false := hRc.free hil (by decide)
      have hwd : IntKind.u32.wrap (d.size : Int) = d.size := by rw [IntKind.wrap_u32]; omega
      clear HS5 hwr HW2 hRc h1 m1 c0 e11 e1 hN hmx hSz HWR
      go_upto_region 14 with (fail)
      refine wp_region_any (by kernel_rfl) ?_
      change wpAny _ _ _ _ _ _ _ (World.drew _)
      refine wpAny_take (i := 0) (v := ?_) rfl (by kernel_rfl) (by kernel_rfl) (by kernel_rfl) (fun _ _ _ h => h) (Or.inl ⟨by rfl, ?_⟩) ?_
      rotate_left
      · intro w; go_simp
        all_goals with_reducible rfl
      refine wpAny_take (i := 1) (v := ?_) rfl (by kernel_rfl) (by kernel_rfl) (by kernel_rfl) (fun _ _ _ h => h) (Or.inl ⟨by rfl, ?_⟩) ?_
      rotate_left
      · intro w; go_simp
        all_goals with_reducible rfl
      refine wpAny_take (i := 2) (v := ?_) rfl (by kernel_rfl) (by kernel_rfl) (by kernel_rfl) (fun _ _ _ h => h) (Or.inl ⟨by rfl, ?_⟩) ?_
      rotate_left
      · intro w; go_simp
        all_goals with_reducible rfl
      refine wpAny_take (i := 4) (v := ?_) rfl (by kernel_rfl) (by kernel_rfl) (by kernel_rfl) (fun _ _ _ h => h) (Or.inl ⟨by rfl, ?_⟩) ?_
      rotate_left
      · intro w; go_simp
        all_goals with_reducible rfl
      refine wpAny_take (i := 5) (v := ?_) rfl (by kernel_rfl) (by kernel_rfl) (by kernel_rfl) (fun _ _ _ h => h) (Or.inl ⟨by rfl, ?_⟩) ?_
      rotate_left
      · intro w; go_simp
        all_goals with_reducible rfl
      refine wpAny_take (i := 6) (v := ?_) rfl (by kernel_rfl) (by kernel_rfl) (by kernel_rfl) (fun _ _ _ h => h) (Or.inl ⟨by rfl, ?_⟩) ?_
      rotate_left
      · intro w; go_simp
        all_goals with_reducible rfl
      refine wpAny_take (i := 7) (v := ?_) rfl (by kernel_rfl) (by kernel_rfl) (by kernel_rfl) (fun _ _ _ h => h) (Or.inl ⟨by rfl, ?_⟩) ?_
      rotate_left
      · intro w; go_simp
        all_goals with_reducible rfl
      refine wpAny_take (i := 8) (v := ?_) rfl (by kernel_rfl) (by kernel_rfl) (by kernel_rfl) (fun _ _ _ h => h) (Or.inl ⟨by rfl, ?_⟩) ?_
      rotate_left
      · intro w; go_simp
        all_goals with_reducible rfl
      refine wpAny_take (i := 9) (v := ?_) rfl (by kernel_rfl) (by kernel_rfl) (by kernel_rfl) (fun _ _ _ h => h) (Or.inl ⟨by rfl, ?_⟩) ?_
      rotate_left
      · intro w; go_simp
        all_goals with_reducible rfl
      refine wpAny_take (i := 10) (v := ?_) rfl (by kernel_rfl) (by kernel_rfl) (by kernel_rfl) (fun _ _ _ h => h) (Or.inl ⟨by rfl, ?_⟩) ?_
      rotate_left
      · intro w; go_simp
        all_goals with_reducible rfl
      refine wpAny_take (i := 11) (v := ?_) rfl (by kernel_rfl) (by kernel_rfl) (by kernel_rfl) (fun _ _ _ h => h) (Or.inl ⟨by rfl, ?_⟩) ?_
      rotate_left
      · intro w; go_simp
        all_goals with_reducible rfl
      refine wpAny_ready (rs := [3]) (by kernel_rfl) (by simp) ?_
      refine AllReady.cons rfl (fun K hK => ?_) AllReady.nil
      go_simp
      refine hK _ _ ?_
      clear hK K
      refine wpAny_take (i := 12) (v := ?_) rfl (by kernel_rfl) (by kernel_rfl) (by kernel_rfl) (fun _ _ _ h => h) (Or.inl ⟨by rfl, ?_⟩) ?_
      rotate_left
      · intro w; go_simp
        all_goals with_reducible rfl
      refine wpAny_take (i := 13) (v := ?_) rfl (by kernel_rfl) (by kernel_rfl) (by kernel_rfl) (fun _ _ _ h => h) (Or.inl ⟨by rfl, ?_⟩) ?_
      rotate_left
      · intro w; go_simp
        all_goals with_reducible rfl
      refine wpAny_ready (rs := [14]) (by kernel_rfl) (by simp) ?_
      refine AllReady.cons rfl (fun K hK => ?_) AllReady.nil
      go_simp
      refine hK _ _ ?_
      clear hK K
      refine wpAny_done (by kernel_rfl) ?_ _
      go_wp2_with fail
      refine hTo.mono ?_
      rintro e w3 ⟨rfl, h3, m3⟩
      have HR3 := Lib.hid h3
      have HM3 : Hid (Mod F w w3) := HM1.out.trans (m3.mono fun k _ e => by rw [e]; exact H.out.fg)
      clear hTo h3 m3
      go_wp2
      go_ret2
      exact ⟨by rw [HV.out]; rfl, by rw [HV.out]; exact HR3.out, HM3.out⟩
    · have t5 : decide ((off : Int) + (d.size : Int) < (z.size : Int)) = false := by simp; omega
      obtain ⟨r, hre⟩ : ∃ r : ByteArray, ({ data := #[] } : ByteArray) = r := ⟨_, rfl⟩
      have hwr : z.extract 0 off ++ d ++ r = writeB s off d := by rw [← HWR.out, if_neg hr, ← hre]; rfl
      have hrl : r.size ≤ 7168 := by rw [← hre]; exact Nat.zero_le _
      have HW2 : Hid (z.extract 0 off ++ d ++ r = writeB s off d) := hwr
      have hno1 : ¬ 9223372036854775807 < (z.extract 0 off).size + d.size := by rw [ByteArray.size_extract]; omega
      have hno3 : ¬ 9223372036854775807 < off + d.size := by omega
      have hno4 : ¬ 9223372036854775807 < off + d.size + r.size := by omega
      have hno2 : ¬ 9223372036854775807 < (z.extract 0 off ++ d).size + r.size := by rw [ByteArray.size_append, ByteArray.size_extract]; omega
      obtain ⟨nd, hnd⟩ : ∃ nd, z.extract 0 off ++ d ++ r = nd := ⟨_, rfl⟩
      have hRc := H.out.mod HM.out (fun _ x => x.elim)
      have HV : Hid (writeT T p off d who now = ({ T with L := T.L.set i (Nd.touch { n with data := nd } who now) }, d.size, 0)) := by
        show _ = _
        rw [HS5.out, stat_upd hwf.rise hi hn, hHs.out, ← HW2.out, hnd]
      obtain ⟨W1, hW1⟩ : ∃ W1, wc.setCell ⟨g, i * 13 + 11, none⟩ (.string nd) = W1 := ⟨_, rfl⟩
      obtain ⟨h1, m1⟩ := hRc.set (n' := { n with data := nd }) hn rfl 11 (.string nd) (by decide) rfl
      rw [hW1] at h1 m1
      have hTo := rtouch_any F b g cap _ vks p i { n with data := nd } who now W1.drew (h1.mod ((Mod.refl (fun _ => False) W1).drew) (fun _ x => x.elim)) (by show (T.L.set i _).length ≤ 1024; rw [List.length_set]; exact hl) (idx_set hi hn rfl) (get_set hil) hno.ver
      simp only [List.set_set] at hTo
      have HM1 : Hid (Mod F w W1.drew) := ((HM.out.mono fun _ _ x => x.elim).trans (m1.mono fun k _ e => by rw [e]; exact H.out.fg)).drew
      have c0c := hRc.rv.c0
      have e11c : wc.cell? ⟨g, i * 13 + 11, none⟩ = some (.string n.data) := hRc.rv.el i n hn 11 _ rfl
      have z11 : wc.frozen? ⟨g, i * 13 + 11, none⟩ = false := hRc.free hil (by decide)
      have hwd : IntKind.u32.wrap (d.size : Int) = d.size := by rw [IntKind.wrap_u32]; omega
      clear HS5 hwr HW2 hRc h1 m1 c0 e11 e1 hN hmx hSz HWR
      go_upto_region 14 with (fail)
      refine wp_region_any (by kernel_rfl) ?_
      change wpAny _ _ _ _ _ _ _ (World.drew _)
      refine wpAny_take (i := 0) (v := ?_) rfl (by kernel_rfl) (by kernel_rfl) (by kernel_rfl) (fun _ _ _ h => h) (Or.inl ⟨by rfl, ?_⟩) ?_
      rotate_left
      · intro w; go_simp
        all_goals with_reducible rfl
      refine wpAny_take (i := 1) (v := ?_) rfl (by kernel_rfl) (by kernel_rfl) (by kernel_rfl) (fun _ _ _ h => h) (Or.inl ⟨by rfl, ?_⟩) ?_
      rotate_left
      · intro w; go_simp
        all_goals with_reducible rfl
      refine wpAny_take (i := 2) (v := ?_) rfl (by kernel_rfl) (by kernel_rfl) (by kernel_rfl) (fun _ _ _ h => h) (Or.inl ⟨by rfl, ?_⟩) ?_
      rotate_left
      · intro w; go_simp
        all_goals with_reducible rfl
      refine wpAny_take (i := 4) (v := ?_) rfl (by kernel_rfl) (by kernel_rfl) (by kernel_rfl) (fun _ _ _ h => h) (Or.inl ⟨by rfl, ?_⟩) ?_
      rotate_left
      · intro w; go_simp
        all_goals with_reducible rfl
      refine wpAny_take (i := 5) (v := ?_) rfl (by kernel_rfl) (by kernel_rfl) (by kernel_rfl) (fun _ _ _ h => h) (Or.inl ⟨by rfl, ?_⟩) ?_
      rotate_left
      · intro w; go_simp
        all_goals with_reducible rfl
      refine wpAny_take (i := 6) (v := ?_) rfl (by kernel_rfl) (by kernel_rfl) (by kernel_rfl) (fun _ _ _ h => h) (Or.inl ⟨by rfl, ?_⟩) ?_
      rotate_left
      · intro w; go_simp
        all_goals with_reducible rfl
      refine wpAny_take (i := 7) (v := ?_) rfl (by kernel_rfl) (by kernel_rfl) (by kernel_rfl) (fun _ _ _ h => h) (Or.inl ⟨by rfl, ?_⟩) ?_
      rotate_left
      · intro w; go_simp
        all_goals with_reducible rfl
      refine wpAny_take (i := 8) (v := ?_) rfl (by kernel_rfl) (by kernel_rfl) (by kernel_rfl) (fun _ _ _ h => h) (Or.inl ⟨by rfl, ?_⟩) ?_
      rotate_left
      · intro w; go_simp
        all_goals with_reducible rfl
      refine wpAny_take (i := 9) (v := ?_) rfl (by kernel_rfl) (by kernel_rfl) (by kernel_rfl) (fun _ _ _ h => h) (Or.inl ⟨by rfl, ?_⟩) ?_
      rotate_left
      · intro w; go_simp
        all_goals with_reducible rfl
      refine wpAny_take (i := 10) (v := ?_) rfl (by kernel_rfl) (by kernel_rfl) (by kernel_rfl) (fun _ _ _ h => h) (Or.inl ⟨by rfl, ?_⟩) ?_
      rotate_left
      · intro w; go_simp
        all_goals with_reducible rfl
      refine wpAny_take (i := 11) (v := ?_) rfl (by kernel_rfl) (by kernel_rfl) (by kernel_rfl) (fun _ _ _ h => h) (Or.inl ⟨by rfl, ?_⟩) ?_
      rotate_left
      · intro w; go_simp
        all_goals with_reducible rfl
      refine wpAny_ready (rs := [3]) (by kernel_rfl) (by simp) ?_
      refine AllReady.cons rfl (fun K hK => ?_) AllReady.nil
      go_simp
      refine hK _ _ ?_
      clear hK K
      refine wpAny_take (i := 12) (v := ?_) rfl (by kernel_rfl) (by kernel_rfl) (by kernel_rfl) (fun _ _ _ h => h) (Or.inl ⟨by rfl, ?_⟩) ?_
      rotate_left
      · intro w; go_simp
        all_goals with_reducible rfl
      refine wpAny_take (i := 13) (v := ?_) rfl (by kernel_rfl) (by kernel_rfl) (by kernel_rfl) (fun _ _ _ h => h) (Or.inl ⟨by rfl, ?_⟩) ?_
      rotate_left
      · intro w; go_simp
        all_goals with_reducible rfl
      refine wpAny_ready (rs := [14]) (by kernel_rfl) (by simp) ?_
      refine AllReady.cons rfl (fun K hK => ?_) AllReady.nil
      go_simp
      refine hK _ _ ?_
      clear hK K
      refine wpAny_done (by kernel_rfl) ?_ _
      go_wp2_with fail
      refine hTo.mono ?_
      rintro e w3 ⟨rfl, h3, m3⟩
      have HR3 := Lib.hid h3
      have HM3 : Hid (Mod F w w3) := HM1.out.trans (m3.mono fun k _ e => by rw [e]; exact H.out.fg)
      clear hTo h3 m3
      go_wp2
      go_ret2
      exact ⟨by rw [HV.out]; rfl, by rw [HV.out]; exact HR3.out, HM3.out⟩
end Go.Proofs.YtkcnbbjmkkaolaaGreatDoor
namespace Go.Proofs.YtkcnbbjmkkaolaaGreatDoor
open Go.RowKit

/-- what was added lies behind what was there -/
def GrowsF (w : World) (F F' : Nat → Prop) : Prop := ∀ k, F' k → F k ∨ w.heap.size ≤ k
theorem GrowsF.refl (w : World) (F : Nat → Prop) : GrowsF w F F := fun _ h => Or.inl h
theorem GrowsF.trans {w w' : World} {F F' F'' : Nat → Prop} (h : GrowsF w F F') (g : GrowsF w' F' F'') (hs : w.heap.size ≤ w'.heap.size) : GrowsF w F F'' := fun k hk => by
  rcases g k hk with h1 | h1
  · exact h k h1
  · exact Or.inr (by omega)
theorem GrowsF.apart {w : World} {F F' G : Nat → Prop} (h : GrowsF w F F') (hd : ∀ k, F k → ¬ G k) (hG : ∀ k, G k → k < w.heap.size) : ∀ k, F' k → ¬ G k := fun k hk hg => by
  rcases h k hk with h1 | h1
  · exact hd k h1 hg
  · have := hG k hg; omega
theorem Mod.growsF {w w1 w2 : World} {F F' : Nat → Prop} (h : Mod F w w1) (g : GrowsF w F F') (k : Mod F' w1 w2) : Mod F w w2 := h.trans' k fun j hj hF => by
  rcases g j hF with x | x
  · exact x
  · omega
theorem own_slice {a : Option Addr} {n c : Nat} {k : Nat} {g : Nat} (h : some k = Value.ownBlock (.slice (some ⟨g, 0, none⟩) n c)) : k = g := by simpa [Value.ownBlock] using h
theorem RTreeP.setLast {w : World} {F : Nat → Prop} {b : Nat} {T : Tr} {g cap : Nat} {vks : Nat → Value} (h : RTreeP w F b T g cap vks) (x : Nat) :
    RTreeP (w.setCell ⟨b, 1, none⟩ (.int .u64 x)) F b { T with last := x } g cap vks ∧ Mod (· = b) w (w.setCell ⟨b, 1, none⟩ (.int .u64 x)) := by
  have hm : Mod (· = b) w (w.setCell ⟨b, 1, none⟩ (.int .u64 x)) := Mod.set1 w b 1 _
  exact ⟨⟨heap_set h.obj 1 _, h.row.modB hm (fun k hk e => by have e2 : k = g := by simpa [Value.ownBlock] using hk
                                                              exact h.ne (e2.symm.trans e)),
    fun i n hi => (h.kid i n hi).modB hm fun k hk e => (h.fk i (List.getElem?_eq_some_iff.1 hi).1 k hk).2.1 e, h.fb, h.fg, h.ne, h.fk, h.dj, fun k hk => Nat.lt_of_lt_of_le (h.lt k hk) hm.size⟩, hm⟩
def pushV (n : Nat) (vks : Nat → Value) (j : Nat) : Value := if j = n then .slice none 0 0 else vks j
theorem rowP_push {L : List Nd} {vks : Nat → Value} {nd : Nd} : flatR ndC (rowP L vks) ++ ndC (nd, .slice none 0 0) = flatR ndC (rowP (L ++ [nd]) (pushV L.length vks)) := by
  have h : rowP (L ++ [nd]) (pushV L.length vks) = rowP L vks ++ [(nd, .slice none 0 0)] := by
    apply List.ext_getElem?
    intro j
    unfold rowP
    rw [List.getElem?_mapIdx]
    by_cases hj : j < L.length
    · rw [List.getElem?_append_left hj, List.getElem?_append_left (by rw [List.length_mapIdx]; exact hj), List.getElem?_mapIdx]
      unfold pushV
      rw [if_neg (by omega)]
    · by_cases he : j = L.length
      · subst he
        rw [List.getElem?_append_right (Nat.le_refl _), List.getElem?_append_right (by rw [List.length_mapIdx]; exact Nat.le_refl _), List.length_mapIdx, Nat.sub_self]
        unfold pushV
        rw [if_pos rfl]
        rfl
      · rw [List.getElem?_eq_none (by rw [List.length_append, List.length_singleton]; omega), List.getElem?_eq_none (by rw [List.length_append, List.length_mapIdx, List.length_singleton]; omega)]
        rfl
  rw [h, flatR_append]
  simp [flatR]
/-- a new file behind all others -/
theorem RTreeP.push {w w2 : World} {F : Nat → Prop} {b : Nat} {T : Tr} {g cap : Nat} {vks : Nat → Value} (h : RTreeP w F b T g cap vks) {nd : Nd} (hk : nd.kids = []) {v' : Value} (hm : Mod (fun k => some k = Value.ownBlock (.slice (some ⟨g, 0, none⟩) T.L.length cap)) w w2)
    (ho : OwnA w2 0 13 v' (T.L.length + 1) (flatR ndC (rowP T.L vks) ++ ndC (nd, .slice none 0 0))) (hb : v'.ownBlock = Value.ownBlock (.slice (some ⟨g, 0, none⟩) T.L.length cap) ∨ ∃ s, v'.ownBlock = some s ∧ w.heap.size ≤ s) :
    ∃ g' cap', v' = .slice (some ⟨g', 0, none⟩) (T.L.length + 1) cap' ∧ RTreeP (w2.setCell ⟨b, 0, none⟩ v') (fun k => F k ∨ k = g') b { T with L := T.L ++ [nd] } g' cap' (pushV T.L.length vks) ∧ Mod F w (w2.setCell ⟨b, 0, none⟩ v') ∧ GrowsF w F (fun k => F k ∨ k = g') := by
  obtain ⟨g', cap', hv⟩ := OwnA.succ ho
  subst hv
  have hgb : Value.ownBlock (.slice (some ⟨g, 0, none⟩) T.L.length cap) = some g := rfl
  have hgb' : Value.ownBlock (.slice (some ⟨g', 0, none⟩) (T.L.length + 1) cap') = some g' := rfl
  rw [hgb, hgb'] at hb
  have hgl : g < w.heap.size := h.lt g h.fg
  have hbl : b < w.heap.size := h.lt b h.fb
  have hg' : g' = g ∨ w.heap.size ≤ g' := by
    rcases hb with e | ⟨s, e, hs⟩
    · injection e with e; exact .inl e
    · injection e with e; exact .inr (by omega)
  have hne : g' ≠ b := by rcases hg' with e | e; rw [e]; exact h.ne; omega
  have hm' : Mod (· = g) w w2 := hm.mono fun k _ e => by simpa [Value.ownBlock] using e
  have hms : Mod (· = b) w2 (w2.setCell ⟨b, 0, none⟩ (.slice (some ⟨g', 0, none⟩) (T.L.length + 1) cap')) := Mod.set1 w2 b 0 _
  have hob := (hm'.block b hbl (fun e => h.ne e.symm)).trans h.obj
  have hll : (T.L ++ [nd]).length = T.L.length + 1 := by rw [List.length_append, List.length_singleton]
  have hMF : Mod F w (w2.setCell ⟨b, 0, none⟩ (.slice (some ⟨g', 0, none⟩) (T.L.length + 1) cap')) := (hm'.mono fun k _ e => by rw [e]; exact h.fg).trans (hms.mono fun k _ e => by rw [e]; exact h.fb)
  have hpv : ∀ j, j < T.L.length → pushV T.L.length vks j = vks j := fun j hj => by unfold pushV; rw [if_neg (by omega)]
  have hpn : pushV T.L.length vks T.L.length = .slice none 0 0 := by unfold pushV; rw [if_pos rfl]
  have hfk : ∀ i, i < T.L.length + 1 → ∀ k, some k = (pushV T.L.length vks i).ownBlock → F k ∧ k ≠ b ∧ k ≠ g' := by
    intro i hi k hk'
    by_cases he : i = T.L.length
    · rw [he, hpn] at hk'; simp [Value.ownBlock] at hk'
    · rw [hpv i (by omega)] at hk'
      obtain ⟨a1, a2, a3⟩ := h.fk i (by omega) k hk'
      exact ⟨a1, a2, by rcases hg' with e | e; rw [e]; exact a3; have := h.lt k a1; omega⟩
  refine ⟨g', cap', rfl, ⟨?_, ?_, fun i n hi => ?_, .inl h.fb, .inr rfl, hne, ?_, ?_, ?_⟩, hMF, ?_⟩
  · show (w2.setCell _ _).heap[b]? = some (.cells #[.slice (some ⟨g', 0, none⟩) (T.L ++ [nd]).length cap', _] _ _)
    rw [hll]
    exact heap_set hob 0 _
  · show OwnA _ 0 13 (.slice (some ⟨g', 0, none⟩) (T.L ++ [nd]).length cap') (T.L ++ [nd]).length (flatR ndC (rowP (T.L ++ [nd]) (pushV T.L.length vks)))
    rw [hll, ← rowP_push]
    exact ho.modB hms fun k hk' e => hne (by have e2 : k = g' := by simpa [Value.ownBlock] using hk'
                                             exact e2.symm.trans e)
  · have hi' : (T.L ++ [nd])[i]? = some n := hi
    by_cases hil : i < T.L.length
    · rw [List.getElem?_append_left hil] at hi'
      rw [hpv i hil]
      exact ((h.kid i n hi').modB hm' fun k hk' e => (h.fk i hil k hk').2.2 e).modB hms fun k hk' e => (h.fk i hil k hk').2.1 e
    · have he : i = T.L.length := by
        have := (List.getElem?_eq_some_iff.1 hi').1
        rw [hll] at this
        omega
      subst he
      rw [List.getElem?_append_right (Nat.le_refl _), Nat.sub_self] at hi'
      have hi2 : nd = n := by simpa using hi'
      rw [hpn, ← hi2, hk]
      exact OwnA.nil _ _ _
  · intro i hi k hk'
    obtain ⟨a1, a2, a3⟩ := hfk i (by rw [← hll]; exact hi) k hk'
    exact ⟨.inl a1, a2, a3⟩
  · intro i j hi hj hij k hk'
    by_cases he : i = T.L.length
    · rw [he, hpn] at hk'; simp [Value.ownBlock] at hk'
    · by_cases hje : j = T.L.length
      · rw [hje, hpn]; simp [Value.ownBlock]
      · have hi1 : i < T.L.length + 1 := by rw [← hll]; exact hi
        have hj1 : j < T.L.length + 1 := by rw [← hll]; exact hj
        rw [hpv i (by omega)] at hk'
        rw [hpv j (by omega)]
        exact h.dj i j (by omega) (by omega) hij k hk'
  · intro k hk'
    rcases hk' with x | x
    · exact Nat.lt_of_lt_of_le (h.lt k x) hMF.size
    · rw [x]; exact Nat.lt_of_lt_of_le (ho.lt g' rfl).2 hms.size
  · intro k hk'
    rcases hk' with x | x
    · exact .inl x
    · rcases hg' with e | e
      · rw [x, e]; exact .inl h.fg
      · rw [x]; exact .inr e
def setV (i : Nat) (v : Value) (vks : Nat → Value) (j : Nat) : Value := if j = i then v else vks j
theorem set_same {α : Type} {l : List α} {k : Nat} {u : α} (h : l[k]? = some u) : l.set k u = l := by
  obtain ⟨hk, rfl⟩ := List.getElem?_eq_some_iff.1 h
  exact List.set_getElem_self hk
theorem rowP_setK {L : List Nd} {vks : Nat → Value} {i : Nat} {n : Nd} {v : Value} : rowP (L.set i n) (setV i v vks) = (rowP L vks).set i (n, v) := by
  apply List.ext_getElem?
  intro j
  unfold rowP setV
  rw [List.getElem?_mapIdx, List.getElem?_set, List.getElem?_set, List.getElem?_mapIdx, List.length_mapIdx]
  by_cases h : i = j
  · subst h
    by_cases hi : i < L.length
    · simp [hi]
    · simp [hi]
  · rw [if_neg h, if_neg h]
    cases L[j]? with
    | none => rfl
    | some m => simp only [Option.map_some]; rw [if_neg (fun e => h e.symm)]
/-- a file's kids lie in another row -/
theorem RTreeP.setKids {w w2 : World} {F : Nat → Prop} {b : Nat} {T : Tr} {g cap : Nat} {vks : Nat → Value} (h : RTreeP w F b T g cap vks) {i : Nat} {n : Nd} (hi : T.L[i]? = some n) {v' : Value} {ks : List Nat} (hm : Mod (fun k => some k = (vks i).ownBlock) w w2)
    (ho : OwnA w2 0 1 v' ks.length (kidsV ks)) (hb : v'.ownBlock = (vks i).ownBlock ∨ ∃ s, v'.ownBlock = some s ∧ w.heap.size ≤ s) :
    RTreeP (w2.setCell ⟨g, i * 13 + 12, none⟩ v') (fun k => F k ∨ some k = v'.ownBlock) b { T with L := T.L.set i { n with kids := ks } } g cap (setV i v' vks) ∧ Mod F w (w2.setCell ⟨g, i * 13 + 12, none⟩ v') ∧ GrowsF w F (fun k => F k ∨ some k = v'.ownBlock) := by
  have hil : i < T.L.length := (List.getElem?_eq_some_iff.1 hi).1
  have hln : (T.L.set i { n with kids := ks }).length = T.L.length := List.length_set
  have hgl : g < w.heap.size := h.lt g h.fg
  have hbl : b < w.heap.size := h.lt b h.fb
  have hv : ∀ k, some k = v'.ownBlock → (some k = (vks i).ownBlock ∨ w.heap.size ≤ k) := fun k hk => by
    rcases hb with e | ⟨s, e, hs⟩
    · exact .inl (hk.trans e)
    · rw [e] at hk; injection hk with hk; exact .inr (by omega)
  have hvb : ∀ k, some k = v'.ownBlock → k ≠ b ∧ k ≠ g := fun k hk => by
    rcases hv k hk with e | e
    · exact (h.fk i hil k e).2
    · exact ⟨by omega, by omega⟩
  have hms : Mod (· = g) w2 (w2.setCell ⟨g, i * 13 + 12, none⟩ v') := Mod.set1 w2 g _ _
  have hob := (hm.block b hbl (fun e => (h.fk i hil b e).2.1 rfl)).trans h.obj
  have hrow := h.row.modB hm (fun k hk e => by have e2 : k = g := by simpa [Value.ownBlock] using hk
                                               exact (h.fk i hil k e).2.2 e2)
  have hMF : Mod F w (w2.setCell ⟨g, i * 13 + 12, none⟩ v') := (hm.mono fun k _ e => (h.fk i hil k e).1).trans (hms.mono fun k _ e => by rw [e]; exact h.fg)
  have hsi : setV i v' vks i = v' := by unfold setV; rw [if_pos rfl]
  have hsj : ∀ j, j ≠ i → setV i v' vks j = vks j := fun j hj => by unfold setV; rw [if_neg hj]
  refine ⟨⟨?_, ?_, fun j m hj => ?_, .inl h.fb, .inl h.fg, h.ne, ?_, ?_, ?_⟩, hMF, ?_⟩
  · show (w2.setCell _ _).heap[b]? = some (.cells #[.slice (some ⟨g, 0, none⟩) (T.L.set i _).length cap, _] _ _)
    rw [hln]
    exact (hms.block b (lt_of hob) (fun e => h.ne e.symm)).trans hob
  · show OwnA _ 0 13 (.slice (some ⟨g, 0, none⟩) (T.L.set i _).length cap) (T.L.set i _).length (flatR ndC (rowP (T.L.set i _) (setV i v' vks)))
    rw [hln, rowP_setK, flatR_set (cs := ndC) (sz := 13) ndC_len (c := 12) (u := v') (by decide) (rowP T.L vks) i (n, vks i) ({ n with kids := ks }, v') (rowP_get hi) rfl]
    exact hrow.setJ (by have : (i + 1) * 13 ≤ T.L.length * 13 := Nat.mul_le_mul_right _ (by omega); omega)
  · have hj' : (T.L.set i { n with kids := ks })[j]? = some m := hj
    rw [List.getElem?_set] at hj'
    by_cases e : i = j
    · subst e
      rw [if_pos rfl, if_pos hil] at hj'
      injection hj' with hj'
      subst hj'
      rw [hsi]
      exact ho.modB hms fun k hk e => (hvb k hk).2 e
    · rw [if_neg e] at hj'
      have hjl : j < T.L.length := (List.getElem?_eq_some_iff.1 hj').1
      rw [hsj j (fun x => e x.symm)]
      exact ((h.kid j m hj').modB hm fun k hk x => h.dj j i hjl hil (fun y => e y.symm) k hk x).modB hms fun k hk x => (h.fk j hjl k hk).2.2 x
  · intro j hj k hk
    have hjl : j < T.L.length := by rw [← hln]; exact hj
    by_cases e : j = i
    · rw [e, hsi] at hk
      exact ⟨.inr hk, (hvb k hk).1, (hvb k hk).2⟩
    · rw [hsj j e] at hk
      obtain ⟨a1, a2, a3⟩ := h.fk j hjl k hk
      exact ⟨.inl a1, a2, a3⟩
  · intro j q hj hq hjq k hk
    have hjl : j < T.L.length := by rw [← hln]; exact hj
    have hql : q < T.L.length := by rw [← hln]; exact hq
    by_cases e : j = i
    · rw [e, hsi] at hk
      have hqi : q ≠ i := fun x => hjq (e.trans x.symm)
      rw [hsj q hqi]
      rcases hv k hk with x | x
      · exact h.dj i q hil hql (fun y => hqi y.symm) k x
      · intro y
        have := h.lt k (h.fk q hql k y).1
        omega
    · rw [hsj j e] at hk
      by_cases eq : q = i
      · rw [eq, hsi]
        intro y
        rcases hv k y with x | x
        · exact h.dj j i hjl hil e k hk x
        · have := h.lt k (h.fk j hjl k hk).1
          omega
      · rw [hsj q eq]
        exact h.dj j q hjl hql hjq k hk
  · intro k hk
    rcases hk with x | x
    · exact Nat.lt_of_lt_of_le (h.lt k x) hMF.size
    · exact Nat.lt_of_lt_of_le (ho.lt k x).2 hms.size
  · intro k hk
    rcases hk with x | x
    · exact .inl x
    · rcases hv k x with y | y
      · exact .inl (h.fk i hil k y).1
      · exact .inr y
theorem kidsV_set (l : List Nat) (j x : Nat) : kidsV (l.set j x) = (kidsV l).set j (.int .u64 x) := by unfold kidsV; rw [List.map_set]
/-- one place of a file's kids is set -/
theorem RTreeP.setKid {w : World} {F : Nat → Prop} {b : Nat} {T : Tr} {g cap : Nat} {vks : Nat → Value} (h : RTreeP w F b T g cap vks) {i : Nat} {n : Nd} (hi : T.L[i]? = some n) {kg kc j x : Nat} (hv : vks i = .slice (some ⟨kg, 0, none⟩) n.kids.length kc) (hj : j < n.kids.length) :
    RTreeP (w.setCell ⟨kg, j, none⟩ (.int .u64 x)) F b { T with L := T.L.set i { n with kids := n.kids.set j x } } g cap vks ∧ Mod F w (w.setCell ⟨kg, j, none⟩ (.int .u64 x)) := by
  have hil : i < T.L.length := (List.getElem?_eq_some_iff.1 hi).1
  have hln : (T.L.set i { n with kids := n.kids.set j x }).length = T.L.length := List.length_set
  have hkg : some kg = (vks i).ownBlock := by rw [hv]; rfl
  obtain ⟨f1, f2, f3⟩ := h.fk i hil kg hkg
  have hms : Mod (· = kg) w (w.setCell ⟨kg, j, none⟩ (.int .u64 x)) := Mod.set1 w kg _ _
  refine ⟨⟨?_, ?_, fun q m hq => ?_, h.fb, h.fg, h.ne, ?_, ?_, fun k hk => Nat.lt_of_lt_of_le (h.lt k hk) hms.size⟩, hms.mono fun k _ e => by rw [e]; exact f1⟩
  · show (w.setCell _ _).heap[b]? = some (.cells #[.slice (some ⟨g, 0, none⟩) (T.L.set i _).length cap, _] _ _)
    rw [hln]
    exact (hms.block b (lt_of h.obj) (fun e => f2 e.symm)).trans h.obj
  · show OwnA _ 0 13 (.slice (some ⟨g, 0, none⟩) (T.L.set i _).length cap) (T.L.set i _).length (flatR ndC (rowP (T.L.set i _) vks))
    have hsame : flatR ndC (rowP (T.L.set i { n with kids := n.kids.set j x }) vks) = flatR ndC (rowP T.L vks) := by
      rw [rowP_set]
      have := flatR_set (cs := ndC) (sz := 13) ndC_len (c := 12) (u := vks i) (by decide) (rowP T.L vks) i (n, vks i) ({ n with kids := n.kids.set j x }, vks i) (rowP_get hi) rfl
      rw [this]
      apply set_same
      rw [flatR_get (cs := ndC) (sz := 13) ndC_len (rowP T.L vks) i (n, vks i) (rowP_get hi) 12 (by decide)]
      rfl
    rw [hln, hsame]
    exact h.row.modB hms fun k hk e => by
      have e2 : k = g := by simpa [Value.ownBlock] using hk
      exact f3 (e.symm.trans e2)
  · have hq' : (T.L.set i { n with kids := n.kids.set j x })[q]? = some m := hq
    rw [List.getElem?_set] at hq'
    by_cases e : i = q
    · subst e
      rw [if_pos rfl, if_pos hil] at hq'
      injection hq' with hq'
      subst hq'
      show OwnA _ 0 1 (vks i) (n.kids.set j x).length (kidsV (n.kids.set j x))
      have ho := h.kid i n hi
      rw [hv] at ho ⊢
      rw [List.length_set, kidsV_set]
      exact ho.setJ (by omega)
    · rw [if_neg e] at hq'
      have hql : q < T.L.length := (List.getElem?_eq_some_iff.1 hq').1
      exact (h.kid q m hq').modB hms fun k hk x => h.dj q i hql hil (fun y => e y.symm) k hk (by rw [x]; exact hkg)
  · intro q hq
    exact h.fk q (by rw [← hln]; exact hq)
  · intro q r hq hr
    exact h.dj q r (by rw [← hln]; exact hq) (by rw [← hln]; exact hr)
end Go.Proofs.YtkcnbbjmkkaolaaGreatDoor
namespace Go.Proofs.YtkcnbbjmkkaolaaGreatDoor
open Go.RowKit

/-- behind all others the last one goes -/
def thenQ (P : Program) (o : Oper) (Q' : Exit → Act → World → Prop) : Exit → Act → World → Prop
  | .normal, a, w => ∀ K : Act → World → Prop, (∀ a w, Q' .normal a w → K a w) → o.wp P a w K Q'
  | e, a, w => Q' e a w

section
variable {P : Program} {md : Region.Mode} {ops : Array Oper} {o : Oper} {Q' : Exit → Act → World → Prop}
theorem wp_thenQ {oi : Oper} {a : Act} {w : World} {K : Act → World → Prop} (h : oi.wp P a w K (thenQ P o Q')) : oi.wp P a w K Q' := by
  unfold Oper.wp at *
  generalize (execOp a.eval oi).run P w = r at *
  cases r with
  | ok n w' =>
    cases n <;> simp only [Oper.upon] at h ⊢ <;>
      first
        | exact h
        | exact Calls.mono h (fun e w'' he => by cases e <;> exact he)
        | exact Rows.mono h (fun _ _ he => he)
  | halt x w' => cases x <;> simp only [Oper.upon] at h ⊢ <;> exact h
theorem wpOp_push3 {i : Nat} {K K' : Act → World → Prop} {a : Act} {w : World} (hi : i < ops.size) (hL : lastB2 md ops o = true) (hK : ∀ a w, K a w → K' a w) (h : wpOp P ops (thenQ P o Q') i K a w) : wpOp P (ops.push o) Q' i K' a w := by
  refine wpOp_mono hK ?_
  have h0 : ops[i]? = some ops[i] := Array.getElem?_eq_getElem hi
  unfold wpOp at *
  rw [Array.getElem?_push, if_neg (by omega)]
  simp only [h0] at h ⊢
  have hw : Region.wanted ops[i] (yielded (ops.push o) a.tmps) = Region.wanted ops[i] (yielded ops a.tmps) := by
    unfold Region.wanted
    cases hg : ops[i].guard with
    | none => rfl
    | some p =>
      obtain ⟨g, b⟩ := p
      simp only [lastB2, Bool.and_eq_true, List.all_eq_true, List.mem_range] at hL
      have h3 := hL.2 i hi
      rw [h0] at h3
      simp only [hg, Bool.and_eq_true, decide_eq_true_eq] at h3
      simp only [yielded]
      rw [Array.getElem?_push, if_neg (by omega)]
  rw [hw]
  split
  · rename_i hh
    rw [if_pos hh] at h
    rcases h with h | h
    · exact .inl (wp_thenQ h)
    · exact .inr h
  · rename_i hh
    rw [if_neg hh] at h
    exact h
theorem wpAny_then3 (hL : lastB2 md ops o = true) :
    ∀ (fuel : Nat) (listed : Array Bool) (a : Act) (w : World), listed.size = ops.size → Inv2 md ops listed → wpAny P md ops (thenQ P o Q') fuel listed a w → wpAny P md (ops.push o) Q' (fuel + 1) (listed.push false) a w := by
  have hL0 := hL
  simp only [lastB2, Bool.and_eq_true, List.all_eq_true, List.mem_range] at hL
  obtain ⟨⟨⟨hall, _⟩, _⟩, _⟩ := hL
  intro fuel
  induction fuel with
  | zero =>
    intro listed a w hs hI h
    by_cases hA : ∀ i, i < ops.size → listed.getD i true = true
    · exact wpAny_last2 (C := fun w' => w' = w) (Q := fun a' => a' = a) hL0 (fun a1 w1 e1 e2 K hK => by rw [e1, e2]; exact h.2 K hK) 0 listed a w hs rfl hA rfl
    · exact absurd h.1 (ready_some2 hL0 listed hs hA)
  | succ fuel ih =>
    intro listed a w hs hI h
    by_cases hA : ∀ i, i < ops.size → listed.getD i true = true
    · exact wpAny_last2 (C := fun w' => w' = w) (Q := fun a' => a' = a) hL0 (fun a1 w1 e1 e2 K hK => by rw [e1, e2]; exact h.1 (ready_all md ops listed hA) K hK) (fuel + 1) listed a w hs rfl hA rfl
    · have hne := ready_some2 hL0 listed hs hA
      have hr : Region.ready md (ops.push o) (listed.push false) = Region.ready md ops listed := by
        rw [ready_push _ _ _ _ hs, if_neg, List.append_nil]
        intro hh
        apply hA
        have key : ∀ n i, ops.size - i ≤ n → i < ops.size → listed.getD i true = true := by
          intro n
          induction n with
          | zero => intro i h1 h2; omega
          | succ n ihn =>
            intro i h1 h2
            rcases Bool.or_eq_true _ _ ▸ hall i h2 with hx | hx
            · obtain ⟨e, he, hb⟩ := Array.any_eq_true'.1 hx
              simp only [Bool.and_eq_true, beq_iff_eq] at hb
              have := Array.all_eq_true'.1 hh e he
              rw [hb.1, hb.2] at this
              simp only [Bool.not_true, Bool.false_or] at this
              simp only [Array.getD_eq_getD_getElem?] at this ⊢
              rw [Array.getElem?_eq_getElem (by omega)] at this ⊢
              exact this
            · obtain ⟨j, hj, hx⟩ := List.any_eq_true.1 hx
              have hj := List.mem_range.1 hj
              simp only [Bool.and_eq_true, decide_eq_true_eq] at hx
              obtain ⟨hij, hx⟩ := hx
              rw [Array.getElem?_eq_getElem hj] at hx
              simp only at hx
              obtain ⟨e, he, hb⟩ := Array.any_eq_true'.1 hx
              simp only [Bool.and_eq_true, beq_iff_eq] at hb
              have := hI j _ (Array.getElem?_eq_getElem hj) (ihn j (by omega) hj) e he hb.1 (by omega)
              rw [hb.2] at this
              exact this
        exact fun i hi => key _ i (Nat.le_refl _) hi
      refine ⟨fun h0 => absurd (hr ▸ h0) hne, fun i hi => ?_⟩
      rw [hr] at hi
      have hil : i < ops.size := List.mem_range.1 (List.mem_filter.1 hi).1
      have hset : (listed.push false).setIfInBounds i true = (listed.setIfInBounds i true).push false := by
        apply Array.ext_getElem?
        intro j
        simp only [Array.getElem?_push, Array.getElem?_setIfInBounds, Array.size_push, Array.size_setIfInBounds]
        by_cases hj : j = listed.size
        · rw [if_pos hj, if_neg (by omega), if_pos hj]
        · rw [if_neg hj, if_neg hj]
          by_cases hij : i = j
          · rw [if_pos hij, if_pos hij, if_pos (by omega), if_pos (by omega)]
          · rw [if_neg hij, if_neg hij]
      rw [hset]
      have hI2 : Inv2 md ops (listed.setIfInBounds i true) := by
        have hup : ∀ k, listed.getD k true = true → (listed.setIfInBounds i true).getD k true = true := by
          intro k hk
          simp only [Array.getD_eq_getD_getElem?, Array.getElem?_setIfInBounds] at hk ⊢
          split
          · split <;> rfl
          · exact hk
        intro j oj hj hlj e he hb hlt
        by_cases hji : j = i
        · subst hji
          have hrd := (List.mem_filter.1 hi).2
          simp only [Bool.and_eq_true] at hrd
          have h3 := hrd.2
          rw [hj] at h3
          simp only [Option.map_some, Option.getD_some] at h3
          have h4 := Array.all_eq_true'.1 h3 e he
          rw [hb] at h4
          simp only [Bool.not_true, Bool.false_or] at h4
          apply hup
          simp only [Array.getD_eq_getD_getElem?] at h4 ⊢
          rw [Array.getElem?_eq_getElem (by omega)] at h4 ⊢
          exact h4
        · refine hup _ (hI j oj hj ?_ e he hb hlt)
          simp only [Array.getD_eq_getD_getElem?, Array.getElem?_setIfInBounds] at hlj ⊢
          rw [if_neg (fun x => hji x.symm)] at hlj
          exact hlj
      exact wpOp_push3 hil hL0 (fun a' w' hh => ih _ _ _ (by rw [Array.size_setIfInBounds]; exact hs) hI2 hh) (h.2 i hi)
theorem wp_region_then3 {id k : Nat} {a : Act} {w : World} {ops : List Oper} {S : World → Prop} (l : List Oper) (o : Oper) (hl : ops.take k = l) (ho : ops[k]? = some o) (hk : ops.length = k + 1) (hm : P.follows .mixedOrders = true) (hL : lastB2 .any l.toArray o = true) (hS : S w.drew)
    (h : S w.drew → wpAnyH P .any l.toArray (thenQ P o Q') S l.toArray.size (Array.replicate l.toArray.size false) a w.drew) : (Code.region id ops.toArray true).wp P Q' a w := by
  have he : ops.toArray = l.toArray.push o := by
    rw [List.push_toArray, ← hl]
    congr 1
    apply List.ext_getElem?
    intro i
    rw [List.getElem?_append, List.length_take, List.getElem?_take]
    by_cases h1 : i < k
    · rw [if_pos (by omega), if_pos h1]
    · rw [if_neg (by omega)]
      by_cases h2 : i = k
      · subst h2
        rw [ho, show i - min i ops.length = 0 from by omega]; rfl
      · rw [List.getElem?_eq_none (by omega), List.getElem?_eq_none (by simp; omega)]
  rw [he]
  have hlen : l.length = k := by rw [← hl, List.length_take]; omega
  refine wp_region_any hm ?_
  have hI0 : Inv2 .any l.toArray (Array.replicate l.toArray.size false) := by
    intro j oj hj hlj
    have hjl : j < l.toArray.size := (Array.getElem?_eq_some_iff.1 hj).1
    simp only [Array.getD_eq_getD_getElem?] at hlj
    rw [Array.getElem?_eq_getElem (by simpa using hjl)] at hlj
    simp at hlj
  have h3 := wpAny_then3 (Q' := Q') hL l.toArray.size (Array.replicate l.toArray.size false) a w.drew (by simp) hI0 (wpAny_of_held _ _ _ _ (h hS))
  rw [Array.size_push, List.size_toArray]
  rw [show Array.replicate (l.length + 1) false = (Array.replicate l.toArray.size false).push false from by simp [Array.replicate_succ]]
  exact h3
end
end Go.Proofs.YtkcnbbjmkkaolaaGreatDoor
