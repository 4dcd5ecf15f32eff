/- Package wire's fields, cleared: each of the twenty. -/
import Derived.Test.YtklpopmjpgdjnaaGreatDoorQPenC
set_option linter.unusedVariables false
set_option linter.unusedSimpArgs false
namespace Go.Proofs.YtklpopmjpgdjnaaGreatDoor
open Go.RowKit

set_option maxHeartbeats 1000000 in
theorem pstat_c (bp br bx i : Nat) (F : Nat → Prop) (out : List UInt8) (lg wg : Bool) (cs : Array Value) (T : TypeId) (w : World) (h : PenAt w F bp 2 out br lg wg) (hb : w.heap[bx]? = some (.cells cs T (0, 0))) (hi : i + 13 ≤ cs.size) :
    Calls Tryz.prog 101 #[.pointer (some ⟨bp, 0, none⟩), .pointer (some ⟨bx, i, none⟩)] w fun e w' => e = .returned (.tuple #[]) ∧ PutS0 w w' bx i := by
  obtain ⟨W, hW⟩ : ∃ W, w.alloc (.cells #[.pointer (some ⟨bp, 0, none⟩)] 63) = W := ⟨_, rfl⟩
  have m0 : Mod (fun _ => False) w W := by subst hW; exact (Mod.refl _ _).alloc _
  have hbb : W.heap[w.heap.size]? = some (.cells #[.pointer (some ⟨bp, 0, none⟩)] 63 (0, 0)) := by subst hW; exact new_at _ _
  have hb0 : W.cell? ⟨w.heap.size, 0, none⟩ = some (.pointer (some ⟨bp, 0, none⟩)) := (cell_of hbb 0).trans rfl
  have hlt := lt_of hb
  have hO := fun tf rf => on_stat_c bp br bx i F out lg wg cs T tf rf W (h.mod m0 (fun _ x => x.elim)) ((m0.block bx hlt (fun x => x)).trans hb) hi
  have M0 := Lib.hid m0
  clear h hb m0 hbb
  go_enter Tryz.func101, Tryz.ntmps101
  go_wp2_with fail
  refine (hO _ _).mono ?_
  rintro e w2 ⟨rfl, hp⟩
  go_wp2
  go_end0
  exact ⟨rfl, (M0.out.mono fun _ _ x => x.elim).trans hp.md, fun cs T hb => hp.obj cs T ((M0.out.block bx hlt (fun x => x)).trans hb)⟩
set_option maxHeartbeats 1000000 in
theorem list_names_c (bp br bx i : Nat) (F : Nat → Prop) (out : List UInt8) (lg wg : Bool) (cs : Array Value) (T : TypeId) (of_ : Value) (w : World) (h : PenAt w F bp 2 out br lg wg) (hb : w.heap[bx]? = some (.cells cs T (0, 0))) (hi : i < cs.size) :
    Calls Tryz.prog 96 #[.pointer (some ⟨bp, 0, none⟩), .pointer (some ⟨bx, i, none⟩), of_] w fun e w' => e = .returned (.tuple #[]) ∧ Put0 w w' bx i (.slice none 0 0) := by
  obtain ⟨c0, _, _, _, _, _⟩ := h.cells
  have hlt := lt_of hb
  have x0 : w.cell? ⟨bx, i, none⟩ = some cs[i] := (cell_of hb i).trans (Array.getElem?_eq_getElem hi)
  have xf := free_of hb i
  clear h hb
  go_enter Tryz.func96, Tryz.ntmps96
  go_wp2
  refine bodyPost_ret (results_none rfl _ _ _) rfl ?_
  exact ⟨rfl, Put0.of (Mod.refl _ _) hlt⟩
set_option maxHeartbeats 1000000 in
theorem list_qids_c (bp br bx i : Nat) (F : Nat → Prop) (out : List UInt8) (lg wg : Bool) (cs : Array Value) (T : TypeId) (of_ : Value) (w : World) (h : PenAt w F bp 2 out br lg wg) (hb : w.heap[bx]? = some (.cells cs T (0, 0))) (hi : i < cs.size) :
    Calls Tryz.prog 97 #[.pointer (some ⟨bp, 0, none⟩), .pointer (some ⟨bx, i, none⟩), of_] w fun e w' => e = .returned (.tuple #[]) ∧ Put0 w w' bx i (.slice none 0 0) := by
  obtain ⟨c0, _, _, _, _, _⟩ := h.cells
  have hlt := lt_of hb
  have x0 : w.cell? ⟨bx, i, none⟩ = some cs[i] := (cell_of hb i).trans (Array.getElem?_eq_getElem hi)
  have xf := free_of hb i
  clear h hb
  go_enter Tryz.func97, Tryz.ntmps97
  go_wp2
  refine bodyPost_ret (results_none rfl _ _ _) rfl ?_
  exact ⟨rfl, Put0.of (Mod.refl _ _) hlt⟩
set_option maxHeartbeats 1000000 in
theorem fc_msize (bp br bm : Nat) (F P : Nat → Prop) (out : List UInt8) (lg wg : Bool) (m : Msg) (w : World) (h : PenAt w F bp 2 out br lg wg) (hm : MsgAt w P bm m) (hF : ∀ k, F k → k ≠ bm) (hP : ∀ g, P g → g ≠ bm) :
    Calls Tryz.prog 52 #[.pointer (some ⟨bp, 0, none⟩), .pointer (some ⟨bm, 0, none⟩)] w fun e w' => e = .returned (.tuple #[]) ∧ MsgAt w' P bm (Fld.clear m .msize) ∧ Mod (· = bm) w w' := by
  obtain ⟨vn, vq, hM⟩ := hm
  have hO := hM.obj
  have hT := pu32_c bp br bm 2 F out lg wg _ _ w h hO (lt36 _ (by decide))
  have HM := Lib.hid hM
  clear h hM hO
  go_enter Tryz.func52, Tryz.ntmps52
  go_wp2_with fail
  refine (hT).mono ?_
  rintro e w1 ⟨rfl, hp⟩
  clear hT
  go_wp2
  go_end0
  exact ⟨rfl, ⟨vn, vq, (hp.obj _ _ HM.out.obj).trans rfl, HM.out.names.mod hp.md fun g x _ e => hP g x e, HM.out.qids.mod hp.md fun g x _ e => hP g x e⟩, hp.md⟩
set_option maxHeartbeats 1000000 in
theorem fc_version (bp br bm : Nat) (F P : Nat → Prop) (out : List UInt8) (lg wg : Bool) (m : Msg) (w : World) (h : PenAt w F bp 2 out br lg wg) (hm : MsgAt w P bm m) (hF : ∀ k, F k → k ≠ bm) (hP : ∀ g, P g → g ≠ bm) :
    Calls Tryz.prog 53 #[.pointer (some ⟨bp, 0, none⟩), .pointer (some ⟨bm, 0, none⟩)] w fun e w' => e = .returned (.tuple #[]) ∧ MsgAt w' P bm (Fld.clear m .version) ∧ Mod (· = bm) w w' := by
  obtain ⟨vn, vq, hM⟩ := hm
  have hO := hM.obj
  have hT := ptext_c bp br bm 3 F out lg wg _ _ w h hO (lt36 _ (by decide))
  have HM := Lib.hid hM
  clear h hM hO
  go_enter Tryz.func53, Tryz.ntmps53
  go_wp2_with fail
  refine (hT).mono ?_
  rintro e w1 ⟨rfl, hp⟩
  clear hT
  go_wp2
  go_end0
  exact ⟨rfl, ⟨vn, vq, (hp.obj _ _ HM.out.obj).trans rfl, HM.out.names.mod hp.md fun g x _ e => hP g x e, HM.out.qids.mod hp.md fun g x _ e => hP g x e⟩, hp.md⟩
set_option maxHeartbeats 1000000 in
theorem fc_fid (bp br bm : Nat) (F P : Nat → Prop) (out : List UInt8) (lg wg : Bool) (m : Msg) (w : World) (h : PenAt w F bp 2 out br lg wg) (hm : MsgAt w P bm m) (hF : ∀ k, F k → k ≠ bm) (hP : ∀ g, P g → g ≠ bm) :
    Calls Tryz.prog 58 #[.pointer (some ⟨bp, 0, none⟩), .pointer (some ⟨bm, 0, none⟩)] w fun e w' => e = .returned (.tuple #[]) ∧ MsgAt w' P bm (Fld.clear m .fid) ∧ Mod (· = bm) w w' := by
  obtain ⟨vn, vq, hM⟩ := hm
  have hO := hM.obj
  have hT := pu32_c bp br bm 4 F out lg wg _ _ w h hO (lt36 _ (by decide))
  have HM := Lib.hid hM
  clear h hM hO
  go_enter Tryz.func58, Tryz.ntmps58
  go_wp2_with fail
  refine (hT).mono ?_
  rintro e w1 ⟨rfl, hp⟩
  clear hT
  go_wp2
  go_end0
  exact ⟨rfl, ⟨vn, vq, (hp.obj _ _ HM.out.obj).trans rfl, HM.out.names.mod hp.md fun g x _ e => hP g x e, HM.out.qids.mod hp.md fun g x _ e => hP g x e⟩, hp.md⟩
set_option maxHeartbeats 1000000 in
theorem fc_afid (bp br bm : Nat) (F P : Nat → Prop) (out : List UInt8) (lg wg : Bool) (m : Msg) (w : World) (h : PenAt w F bp 2 out br lg wg) (hm : MsgAt w P bm m) (hF : ∀ k, F k → k ≠ bm) (hP : ∀ g, P g → g ≠ bm) :
    Calls Tryz.prog 54 #[.pointer (some ⟨bp, 0, none⟩), .pointer (some ⟨bm, 0, none⟩)] w fun e w' => e = .returned (.tuple #[]) ∧ MsgAt w' P bm (Fld.clear m .afid) ∧ Mod (· = bm) w w' := by
  obtain ⟨vn, vq, hM⟩ := hm
  have hO := hM.obj
  have hT := pu32_c bp br bm 5 F out lg wg _ _ w h hO (lt36 _ (by decide))
  have HM := Lib.hid hM
  clear h hM hO
  go_enter Tryz.func54, Tryz.ntmps54
  go_wp2_with fail
  refine (hT).mono ?_
  rintro e w1 ⟨rfl, hp⟩
  clear hT
  go_wp2
  go_end0
  exact ⟨rfl, ⟨vn, vq, (hp.obj _ _ HM.out.obj).trans rfl, HM.out.names.mod hp.md fun g x _ e => hP g x e, HM.out.qids.mod hp.md fun g x _ e => hP g x e⟩, hp.md⟩
set_option maxHeartbeats 1000000 in
theorem fc_newfid (bp br bm : Nat) (F P : Nat → Prop) (out : List UInt8) (lg wg : Bool) (m : Msg) (w : World) (h : PenAt w F bp 2 out br lg wg) (hm : MsgAt w P bm m) (hF : ∀ k, F k → k ≠ bm) (hP : ∀ g, P g → g ≠ bm) :
    Calls Tryz.prog 61 #[.pointer (some ⟨bp, 0, none⟩), .pointer (some ⟨bm, 0, none⟩)] w fun e w' => e = .returned (.tuple #[]) ∧ MsgAt w' P bm (Fld.clear m .newfid) ∧ Mod (· = bm) w w' := by
  obtain ⟨vn, vq, hM⟩ := hm
  have hO := hM.obj
  have hT := pu32_c bp br bm 6 F out lg wg _ _ w h hO (lt36 _ (by decide))
  have HM := Lib.hid hM
  clear h hM hO
  go_enter Tryz.func61, Tryz.ntmps61
  go_wp2_with fail
  refine (hT).mono ?_
  rintro e w1 ⟨rfl, hp⟩
  clear hT
  go_wp2
  go_end0
  exact ⟨rfl, ⟨vn, vq, (hp.obj _ _ HM.out.obj).trans rfl, HM.out.names.mod hp.md fun g x _ e => hP g x e, HM.out.qids.mod hp.md fun g x _ e => hP g x e⟩, hp.md⟩
set_option maxHeartbeats 1000000 in
theorem fc_oldtag (bp br bm : Nat) (F P : Nat → Prop) (out : List UInt8) (lg wg : Bool) (m : Msg) (w : World) (h : PenAt w F bp 2 out br lg wg) (hm : MsgAt w P bm m) (hF : ∀ k, F k → k ≠ bm) (hP : ∀ g, P g → g ≠ bm) :
    Calls Tryz.prog 60 #[.pointer (some ⟨bp, 0, none⟩), .pointer (some ⟨bm, 0, none⟩)] w fun e w' => e = .returned (.tuple #[]) ∧ MsgAt w' P bm (Fld.clear m .oldtag) ∧ Mod (· = bm) w w' := by
  obtain ⟨vn, vq, hM⟩ := hm
  have hO := hM.obj
  have hT := pu16_c bp br bm 7 F out lg wg _ _ w h hO (lt36 _ (by decide))
  have HM := Lib.hid hM
  clear h hM hO
  go_enter Tryz.func60, Tryz.ntmps60
  go_wp2_with fail
  refine (hT).mono ?_
  rintro e w1 ⟨rfl, hp⟩
  clear hT
  go_wp2
  go_end0
  exact ⟨rfl, ⟨vn, vq, (hp.obj _ _ HM.out.obj).trans rfl, HM.out.names.mod hp.md fun g x _ e => hP g x e, HM.out.qids.mod hp.md fun g x _ e => hP g x e⟩, hp.md⟩
set_option maxHeartbeats 1000000 in
theorem fc_uname (bp br bm : Nat) (F P : Nat → Prop) (out : List UInt8) (lg wg : Bool) (m : Msg) (w : World) (h : PenAt w F bp 2 out br lg wg) (hm : MsgAt w P bm m) (hF : ∀ k, F k → k ≠ bm) (hP : ∀ g, P g → g ≠ bm) :
    Calls Tryz.prog 55 #[.pointer (some ⟨bp, 0, none⟩), .pointer (some ⟨bm, 0, none⟩)] w fun e w' => e = .returned (.tuple #[]) ∧ MsgAt w' P bm (Fld.clear m .uname) ∧ Mod (· = bm) w w' := by
  obtain ⟨vn, vq, hM⟩ := hm
  have hO := hM.obj
  have hT := ptext_c bp br bm 8 F out lg wg _ _ w h hO (lt36 _ (by decide))
  have HM := Lib.hid hM
  clear h hM hO
  go_enter Tryz.func55, Tryz.ntmps55
  go_wp2_with fail
  refine (hT).mono ?_
  rintro e w1 ⟨rfl, hp⟩
  clear hT
  go_wp2
  go_end0
  exact ⟨rfl, ⟨vn, vq, (hp.obj _ _ HM.out.obj).trans rfl, HM.out.names.mod hp.md fun g x _ e => hP g x e, HM.out.qids.mod hp.md fun g x _ e => hP g x e⟩, hp.md⟩
set_option maxHeartbeats 1000000 in
theorem fc_aname (bp br bm : Nat) (F P : Nat → Prop) (out : List UInt8) (lg wg : Bool) (m : Msg) (w : World) (h : PenAt w F bp 2 out br lg wg) (hm : MsgAt w P bm m) (hF : ∀ k, F k → k ≠ bm) (hP : ∀ g, P g → g ≠ bm) :
    Calls Tryz.prog 56 #[.pointer (some ⟨bp, 0, none⟩), .pointer (some ⟨bm, 0, none⟩)] w fun e w' => e = .returned (.tuple #[]) ∧ MsgAt w' P bm (Fld.clear m .aname) ∧ Mod (· = bm) w w' := by
  obtain ⟨vn, vq, hM⟩ := hm
  have hO := hM.obj
  have hT := ptext_c bp br bm 9 F out lg wg _ _ w h hO (lt36 _ (by decide))
  have HM := Lib.hid hM
  clear h hM hO
  go_enter Tryz.func56, Tryz.ntmps56
  go_wp2_with fail
  refine (hT).mono ?_
  rintro e w1 ⟨rfl, hp⟩
  clear hT
  go_wp2
  go_end0
  exact ⟨rfl, ⟨vn, vq, (hp.obj _ _ HM.out.obj).trans rfl, HM.out.names.mod hp.md fun g x _ e => hP g x e, HM.out.qids.mod hp.md fun g x _ e => hP g x e⟩, hp.md⟩
set_option maxHeartbeats 1000000 in
theorem fc_ename (bp br bm : Nat) (F P : Nat → Prop) (out : List UInt8) (lg wg : Bool) (m : Msg) (w : World) (h : PenAt w F bp 2 out br lg wg) (hm : MsgAt w P bm m) (hF : ∀ k, F k → k ≠ bm) (hP : ∀ g, P g → g ≠ bm) :
    Calls Tryz.prog 59 #[.pointer (some ⟨bp, 0, none⟩), .pointer (some ⟨bm, 0, none⟩)] w fun e w' => e = .returned (.tuple #[]) ∧ MsgAt w' P bm (Fld.clear m .ename) ∧ Mod (· = bm) w w' := by
  obtain ⟨vn, vq, hM⟩ := hm
  have hO := hM.obj
  have hT := ptext_c bp br bm 10 F out lg wg _ _ w h hO (lt36 _ (by decide))
  have HM := Lib.hid hM
  clear h hM hO
  go_enter Tryz.func59, Tryz.ntmps59
  go_wp2_with fail
  refine (hT).mono ?_
  rintro e w1 ⟨rfl, hp⟩
  clear hT
  go_wp2
  go_end0
  exact ⟨rfl, ⟨vn, vq, (hp.obj _ _ HM.out.obj).trans rfl, HM.out.names.mod hp.md fun g x _ e => hP g x e, HM.out.qids.mod hp.md fun g x _ e => hP g x e⟩, hp.md⟩
set_option maxHeartbeats 1000000 in
theorem fc_name (bp br bm : Nat) (F P : Nat → Prop) (out : List UInt8) (lg wg : Bool) (m : Msg) (w : World) (h : PenAt w F bp 2 out br lg wg) (hm : MsgAt w P bm m) (hF : ∀ k, F k → k ≠ bm) (hP : ∀ g, P g → g ≠ bm) :
    Calls Tryz.prog 66 #[.pointer (some ⟨bp, 0, none⟩), .pointer (some ⟨bm, 0, none⟩)] w fun e w' => e = .returned (.tuple #[]) ∧ MsgAt w' P bm (Fld.clear m .name) ∧ Mod (· = bm) w w' := by
  obtain ⟨vn, vq, hM⟩ := hm
  have hO := hM.obj
  have hT := ptext_c bp br bm 11 F out lg wg _ _ w h hO (lt36 _ (by decide))
  have HM := Lib.hid hM
  clear h hM hO
  go_enter Tryz.func66, Tryz.ntmps66
  go_wp2_with fail
  refine (hT).mono ?_
  rintro e w1 ⟨rfl, hp⟩
  clear hT
  go_wp2
  go_end0
  exact ⟨rfl, ⟨vn, vq, (hp.obj _ _ HM.out.obj).trans rfl, HM.out.names.mod hp.md fun g x _ e => hP g x e, HM.out.qids.mod hp.md fun g x _ e => hP g x e⟩, hp.md⟩
set_option maxHeartbeats 1000000 in
theorem fc_names (bp br bm : Nat) (F P : Nat → Prop) (out : List UInt8) (lg wg : Bool) (m : Msg) (w : World) (h : PenAt w F bp 2 out br lg wg) (hm : MsgAt w P bm m) (hF : ∀ k, F k → k ≠ bm) (hP : ∀ g, P g → g ≠ bm) :
    Calls Tryz.prog 62 #[.pointer (some ⟨bp, 0, none⟩), .pointer (some ⟨bm, 0, none⟩)] w fun e w' => e = .returned (.tuple #[]) ∧ MsgAt w' P bm (Fld.clear m .names) ∧ Mod (· = bm) w w' := by
  obtain ⟨vn, vq, hM⟩ := hm
  have hO := hM.obj
  have hT := fun of_ => list_names_c bp br bm 12 F out lg wg _ _ of_ w h hO (lt36 _ (by decide))
  have HM := Lib.hid hM
  clear h hM hO
  go_enter Tryz.func62, Tryz.ntmps62
  go_wp2_with fail
  refine (hT _).mono ?_
  rintro e w1 ⟨rfl, hp⟩
  clear hT
  go_wp2
  go_end0
  exact ⟨rfl, ⟨_, vq, (hp.obj _ _ HM.out.obj).trans rfl, .inl ⟨rfl, _, _, rfl⟩, HM.out.qids.mod hp.md fun g x _ e => hP g x e⟩, hp.md⟩
set_option maxHeartbeats 1000000 in
theorem fc_qid (bp br bm : Nat) (F P : Nat → Prop) (out : List UInt8) (lg wg : Bool) (m : Msg) (w : World) (h : PenAt w F bp 2 out br lg wg) (hm : MsgAt w P bm m) (hF : ∀ k, F k → k ≠ bm) (hP : ∀ g, P g → g ≠ bm) :
    Calls Tryz.prog 57 #[.pointer (some ⟨bp, 0, none⟩), .pointer (some ⟨bm, 0, none⟩)] w fun e w' => e = .returned (.tuple #[]) ∧ MsgAt w' P bm (Fld.clear m .qid) ∧ Mod (· = bm) w w' := by
  obtain ⟨vn, vq, hM⟩ := hm
  have hO := hM.obj
  have hT := pqid_c bp br bm 13 F out lg wg _ _ w h hF hO (lt36 _ (by decide))
  have HM := Lib.hid hM
  clear h hM hO
  go_enter Tryz.func57, Tryz.ntmps57
  go_wp2_with fail
  refine (hT).mono ?_
  rintro e w1 ⟨rfl, hp⟩
  clear hT
  go_wp2
  go_end0
  exact ⟨rfl, ⟨vn, vq, (hp.obj _ _ HM.out.obj).trans rfl, HM.out.names.mod hp.md fun g x _ e => hP g x e, HM.out.qids.mod hp.md fun g x _ e => hP g x e⟩, hp.md⟩
set_option maxHeartbeats 1000000 in
theorem fc_qids (bp br bm : Nat) (F P : Nat → Prop) (out : List UInt8) (lg wg : Bool) (m : Msg) (w : World) (h : PenAt w F bp 2 out br lg wg) (hm : MsgAt w P bm m) (hF : ∀ k, F k → k ≠ bm) (hP : ∀ g, P g → g ≠ bm) :
    Calls Tryz.prog 63 #[.pointer (some ⟨bp, 0, none⟩), .pointer (some ⟨bm, 0, none⟩)] w fun e w' => e = .returned (.tuple #[]) ∧ MsgAt w' P bm (Fld.clear m .qids) ∧ Mod (· = bm) w w' := by
  obtain ⟨vn, vq, hM⟩ := hm
  have hO := hM.obj
  have hT := fun of_ => list_qids_c bp br bm 16 F out lg wg _ _ of_ w h hO (lt36 _ (by decide))
  have HM := Lib.hid hM
  clear h hM hO
  go_enter Tryz.func63, Tryz.ntmps63
  go_wp2_with fail
  refine (hT _).mono ?_
  rintro e w1 ⟨rfl, hp⟩
  clear hT
  go_wp2
  go_end0
  exact ⟨rfl, ⟨vn, _, (hp.obj _ _ HM.out.obj).trans rfl, HM.out.names.mod hp.md fun g x _ e => hP g x e, RecsAt.nil _ _⟩, hp.md⟩
set_option maxHeartbeats 1000000 in
theorem fc_mode (bp br bm : Nat) (F P : Nat → Prop) (out : List UInt8) (lg wg : Bool) (m : Msg) (w : World) (h : PenAt w F bp 2 out br lg wg) (hm : MsgAt w P bm m) (hF : ∀ k, F k → k ≠ bm) (hP : ∀ g, P g → g ≠ bm) :
    Calls Tryz.prog 64 #[.pointer (some ⟨bp, 0, none⟩), .pointer (some ⟨bm, 0, none⟩)] w fun e w' => e = .returned (.tuple #[]) ∧ MsgAt w' P bm (Fld.clear m .mode) ∧ Mod (· = bm) w w' := by
  obtain ⟨vn, vq, hM⟩ := hm
  have hO := hM.obj
  have hT := pu8_c bp br bm 17 F out lg wg _ _ w h hO (lt36 _ (by decide))
  have HM := Lib.hid hM
  clear h hM hO
  go_enter Tryz.func64, Tryz.ntmps64
  go_wp2_with fail
  refine (hT).mono ?_
  rintro e w1 ⟨rfl, hp⟩
  clear hT
  go_wp2
  go_end0
  exact ⟨rfl, ⟨vn, vq, (hp.obj _ _ HM.out.obj).trans rfl, HM.out.names.mod hp.md fun g x _ e => hP g x e, HM.out.qids.mod hp.md fun g x _ e => hP g x e⟩, hp.md⟩
set_option maxHeartbeats 1000000 in
theorem fc_perm (bp br bm : Nat) (F P : Nat → Prop) (out : List UInt8) (lg wg : Bool) (m : Msg) (w : World) (h : PenAt w F bp 2 out br lg wg) (hm : MsgAt w P bm m) (hF : ∀ k, F k → k ≠ bm) (hP : ∀ g, P g → g ≠ bm) :
    Calls Tryz.prog 67 #[.pointer (some ⟨bp, 0, none⟩), .pointer (some ⟨bm, 0, none⟩)] w fun e w' => e = .returned (.tuple #[]) ∧ MsgAt w' P bm (Fld.clear m .perm) ∧ Mod (· = bm) w w' := by
  obtain ⟨vn, vq, hM⟩ := hm
  have hO := hM.obj
  have hT := pu32_c bp br bm 18 F out lg wg _ _ w h hO (lt36 _ (by decide))
  have HM := Lib.hid hM
  clear h hM hO
  go_enter Tryz.func67, Tryz.ntmps67
  go_wp2_with fail
  refine (hT).mono ?_
  rintro e w1 ⟨rfl, hp⟩
  clear hT
  go_wp2
  go_end0
  exact ⟨rfl, ⟨vn, vq, (hp.obj _ _ HM.out.obj).trans rfl, HM.out.names.mod hp.md fun g x _ e => hP g x e, HM.out.qids.mod hp.md fun g x _ e => hP g x e⟩, hp.md⟩
set_option maxHeartbeats 1000000 in
theorem fc_iounit (bp br bm : Nat) (F P : Nat → Prop) (out : List UInt8) (lg wg : Bool) (m : Msg) (w : World) (h : PenAt w F bp 2 out br lg wg) (hm : MsgAt w P bm m) (hF : ∀ k, F k → k ≠ bm) (hP : ∀ g, P g → g ≠ bm) :
    Calls Tryz.prog 65 #[.pointer (some ⟨bp, 0, none⟩), .pointer (some ⟨bm, 0, none⟩)] w fun e w' => e = .returned (.tuple #[]) ∧ MsgAt w' P bm (Fld.clear m .iounit) ∧ Mod (· = bm) w w' := by
  obtain ⟨vn, vq, hM⟩ := hm
  have hO := hM.obj
  have hT := pu32_c bp br bm 19 F out lg wg _ _ w h hO (lt36 _ (by decide))
  have HM := Lib.hid hM
  clear h hM hO
  go_enter Tryz.func65, Tryz.ntmps65
  go_wp2_with fail
  refine (hT).mono ?_
  rintro e w1 ⟨rfl, hp⟩
  clear hT
  go_wp2
  go_end0
  exact ⟨rfl, ⟨vn, vq, (hp.obj _ _ HM.out.obj).trans rfl, HM.out.names.mod hp.md fun g x _ e => hP g x e, HM.out.qids.mod hp.md fun g x _ e => hP g x e⟩, hp.md⟩
set_option maxHeartbeats 1000000 in
theorem fc_offset (bp br bm : Nat) (F P : Nat → Prop) (out : List UInt8) (lg wg : Bool) (m : Msg) (w : World) (h : PenAt w F bp 2 out br lg wg) (hm : MsgAt w P bm m) (hF : ∀ k, F k → k ≠ bm) (hP : ∀ g, P g → g ≠ bm) :
    Calls Tryz.prog 68 #[.pointer (some ⟨bp, 0, none⟩), .pointer (some ⟨bm, 0, none⟩)] w fun e w' => e = .returned (.tuple #[]) ∧ MsgAt w' P bm (Fld.clear m .offset) ∧ Mod (· = bm) w w' := by
  obtain ⟨vn, vq, hM⟩ := hm
  have hO := hM.obj
  have hT := pu64_c bp br bm 20 F out lg wg _ _ w h hO (lt36 _ (by decide))
  have HM := Lib.hid hM
  clear h hM hO
  go_enter Tryz.func68, Tryz.ntmps68
  go_wp2_with fail
  refine (hT).mono ?_
  rintro e w1 ⟨rfl, hp⟩
  clear hT
  go_wp2
  go_end0
  exact ⟨rfl, ⟨vn, vq, (hp.obj _ _ HM.out.obj).trans rfl, HM.out.names.mod hp.md fun g x _ e => hP g x e, HM.out.qids.mod hp.md fun g x _ e => hP g x e⟩, hp.md⟩
set_option maxHeartbeats 1000000 in
theorem fc_count (bp br bm : Nat) (F P : Nat → Prop) (out : List UInt8) (lg wg : Bool) (m : Msg) (w : World) (h : PenAt w F bp 2 out br lg wg) (hm : MsgAt w P bm m) (hF : ∀ k, F k → k ≠ bm) (hP : ∀ g, P g → g ≠ bm) :
    Calls Tryz.prog 69 #[.pointer (some ⟨bp, 0, none⟩), .pointer (some ⟨bm, 0, none⟩)] w fun e w' => e = .returned (.tuple #[]) ∧ MsgAt w' P bm (Fld.clear m .count) ∧ Mod (· = bm) w w' := by
  obtain ⟨vn, vq, hM⟩ := hm
  have hO := hM.obj
  have hT := pu32_c bp br bm 21 F out lg wg _ _ w h hO (lt36 _ (by decide))
  have HM := Lib.hid hM
  clear h hM hO
  go_enter Tryz.func69, Tryz.ntmps69
  go_wp2_with fail
  refine (hT).mono ?_
  rintro e w1 ⟨rfl, hp⟩
  clear hT
  go_wp2
  go_end0
  exact ⟨rfl, ⟨vn, vq, (hp.obj _ _ HM.out.obj).trans rfl, HM.out.names.mod hp.md fun g x _ e => hP g x e, HM.out.qids.mod hp.md fun g x _ e => hP g x e⟩, hp.md⟩
set_option maxHeartbeats 1000000 in
theorem fc_data (bp br bm : Nat) (F P : Nat → Prop) (out : List UInt8) (lg wg : Bool) (m : Msg) (w : World) (h : PenAt w F bp 2 out br lg wg) (hm : MsgAt w P bm m) (hF : ∀ k, F k → k ≠ bm) (hP : ∀ g, P g → g ≠ bm) :
    Calls Tryz.prog 70 #[.pointer (some ⟨bp, 0, none⟩), .pointer (some ⟨bm, 0, none⟩)] w fun e w' => e = .returned (.tuple #[]) ∧ MsgAt w' P bm (Fld.clear m .data) ∧ Mod (· = bm) w w' := by
  obtain ⟨vn, vq, hM⟩ := hm
  have hO := hM.obj
  have hT := pdata_c bp br bm 22 F out lg wg _ _ w h hO (lt36 _ (by decide))
  have HM := Lib.hid hM
  clear h hM hO
  go_enter Tryz.func70, Tryz.ntmps70
  go_wp2_with fail
  refine (hT).mono ?_
  rintro e w1 ⟨rfl, hp⟩
  clear hT
  go_wp2
  go_end0
  exact ⟨rfl, ⟨vn, vq, (hp.obj _ _ HM.out.obj).trans rfl, HM.out.names.mod hp.md fun g x _ e => hP g x e, HM.out.qids.mod hp.md fun g x _ e => hP g x e⟩, hp.md⟩
set_option maxHeartbeats 1000000 in
theorem fc_stat (bp br bm : Nat) (F P : Nat → Prop) (out : List UInt8) (lg wg : Bool) (m : Msg) (w : World) (h : PenAt w F bp 2 out br lg wg) (hm : MsgAt w P bm m) (hF : ∀ k, F k → k ≠ bm) (hP : ∀ g, P g → g ≠ bm) :
    Calls Tryz.prog 71 #[.pointer (some ⟨bp, 0, none⟩), .pointer (some ⟨bm, 0, none⟩)] w fun e w' => e = .returned (.tuple #[]) ∧ MsgAt w' P bm (Fld.clear m .stat) ∧ Mod (· = bm) w w' := by
  obtain ⟨vn, vq, hM⟩ := hm
  have hO := hM.obj
  have hT := pstat_c bp br bm 23 F out lg wg _ _ w h hO (le36 _ (by decide))
  have HM := Lib.hid hM
  clear h hM hO
  go_enter Tryz.func71, Tryz.ntmps71
  go_wp2_with fail
  refine (hT).mono ?_
  rintro e w1 ⟨rfl, hp⟩
  clear hT
  go_wp2
  go_end0
  exact ⟨rfl, ⟨vn, vq, (hp.obj _ _ HM.out.obj).trans rfl, HM.out.names.mod hp.md fun g x _ e => hP g x e, HM.out.qids.mod hp.md fun g x _ e => hP g x e⟩, hp.md⟩
theorem fld_c (f : Fld) (bp br bm : Nat) (F P : Nat → Prop) (out : List UInt8) (lg wg : Bool) (m : Msg) (w : World) (h : PenAt w F bp 2 out br lg wg) (hm : MsgAt w P bm m) (hF : ∀ k, F k → k ≠ bm) (hP : ∀ g, P g → g ≠ bm) :
    Calls Tryz.prog (fnOf f) #[.pointer (some ⟨bp, 0, none⟩), .pointer (some ⟨bm, 0, none⟩)] w fun e w' => e = .returned (.tuple #[]) ∧ MsgAt w' P bm (Fld.clear m f) ∧ Mod (· = bm) w w' := by
  cases f
  · exact fc_msize bp br bm F P out lg wg m w h hm hF hP
  · exact fc_version bp br bm F P out lg wg m w h hm hF hP
  · exact fc_fid bp br bm F P out lg wg m w h hm hF hP
  · exact fc_afid bp br bm F P out lg wg m w h hm hF hP
  · exact fc_newfid bp br bm F P out lg wg m w h hm hF hP
  · exact fc_oldtag bp br bm F P out lg wg m w h hm hF hP
  · exact fc_uname bp br bm F P out lg wg m w h hm hF hP
  · exact fc_aname bp br bm F P out lg wg m w h hm hF hP
  · exact fc_ename bp br bm F P out lg wg m w h hm hF hP
  · exact fc_name bp br bm F P out lg wg m w h hm hF hP
  · exact fc_names bp br bm F P out lg wg m w h hm hF hP
  · exact fc_qid bp br bm F P out lg wg m w h hm hF hP
  · exact fc_qids bp br bm F P out lg wg m w h hm hF hP
  · exact fc_mode bp br bm F P out lg wg m w h hm hF hP
  · exact fc_perm bp br bm F P out lg wg m w h hm hF hP
  · exact fc_iounit bp br bm F P out lg wg m w h hm hF hP
  · exact fc_offset bp br bm F P out lg wg m w h hm hF hP
  · exact fc_count bp br bm F P out lg wg m w h hm hF hP
  · exact fc_data bp br bm F P out lg wg m w h hm hF hP
  · exact fc_stat bp br bm F P out lg wg m w h hm hF hP
end Go.Proofs.YtklpopmjpgdjnaaGreatDoor
