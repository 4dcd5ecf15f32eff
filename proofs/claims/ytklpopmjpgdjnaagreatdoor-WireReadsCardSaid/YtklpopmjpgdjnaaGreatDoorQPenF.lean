/- Package wire's fields, written: each of the twenty. -/
import Derived.Test.YtklpopmjpgdjnaaGreatDoorQPenL
set_option linter.unusedVariables false
set_option linter.unusedSimpArgs false
namespace Go.Proofs.YtklpopmjpgdjnaaGreatDoor
open Go.RowKit

def msgO (m : Msg) (vn vq : Value) : Obj := .cells (m.cells vn vq).toArray 33 (0, 0)
/-- a message in memory: its cells, and its two lists in blocks that meet P -/
structure MsgP (w : World) (P : Nat → Prop) (bm : Nat) (m : Msg) (vn vq : Value) : Prop where
  obj : w.heap[bm]? = some (msgO m vn vq)
  names : SlAt w P vn (m.names.map .string)
  qids : RecsAt Qd.cells 3 w P vq m.qids
def MsgAt (w : World) (P : Nat → Prop) (bm : Nat) (m : Msg) : Prop := ∃ vn vq, MsgP w P bm m vn vq
theorem MsgP.mod {w w' : World} {P S : Nat → Prop} {bm : Nat} {m : Msg} {vn vq : Value} (h : MsgP w P bm m vn vq) (hm : Mod S w w') (hb : ¬ S bm) (hP : ∀ g, P g → ¬ S g) : MsgP w' P bm m vn vq :=
  ⟨(hm.block bm (lt_of h.obj) hb).trans h.obj, h.names.mod hm fun g x _ => hP g x, h.qids.mod hm fun g x _ => hP g x⟩
theorem MsgAt.mod {w w' : World} {P S : Nat → Prop} {bm : Nat} {m : Msg} (h : MsgAt w P bm m) (hm : Mod S w w') (hb : ¬ S bm) (hP : ∀ g, P g → ¬ S g) : MsgAt w' P bm m := by
  obtain ⟨vn, vq, h⟩ := h
  exact ⟨vn, vq, h.mod hm hb hP⟩
/-- texts and lists of a length that is played -/
structure Msg.Small (m : Msg) : Prop where
  version : m.version.size ≤ 262144
  uname : m.uname.size ≤ 262144
  aname : m.aname.size ≤ 262144
  ename : m.ename.size ≤ 262144
  name : m.name.size ≤ 262144
  data : m.data.size ≤ 262144
  st : m.stat.n.size ≤ 262144 ∧ m.stat.u.size ≤ 262144 ∧ m.stat.g.size ≤ 262144 ∧ m.stat.m.size ≤ 262144
  names : ∀ s ∈ m.names, s.size ≤ 262144
  nl : m.names.length ≤ 1000000
  ql : m.qids.length ≤ 1000000
/-- the function of a field -/
def fnOf : Fld → FuncId
  | .msize => 52
  | .version => 53
  | .fid => 58
  | .afid => 54
  | .newfid => 61
  | .oldtag => 60
  | .uname => 55
  | .aname => 56
  | .ename => 59
  | .name => 66
  | .names => 62
  | .qid => 57
  | .qids => 63
  | .mode => 64
  | .perm => 67
  | .iounit => 65
  | .offset => 68
  | .count => 69
  | .data => 70
  | .stat => 71
set_option maxHeartbeats 1000000 in
theorem fw_msize (bp br bm : Nat) (F P : Nat → Prop) (o : Wr) (wg : Bool) (r : Rd) (m : Msg) (w : World) (h : PenAt w F bp 0 o.1 br o.2 wg) (hm : MsgAt w P bm m) (hP : ∀ g, P g → ¬ F g) (hmF : ¬ F bm) (hr : w.heap[br]? = some (rdO r)) (hf : r.f = 0) (hrF : ¬ F br) (hk : m.Ok) (hs : m.Small) (ho : o.1.length ≤ 8192) :
    Calls Tryz.prog 52 #[.pointer (some ⟨bp, 0, none⟩), .pointer (some ⟨bm, 0, none⟩)] w fun e w' => e = .returned (.tuple #[]) ∧ Pens w w' F bp br (Fld.wr m o .msize) wg := by
  obtain ⟨vn, vq, hb, hvn, hvq⟩ := hm
  have hT : Calls _ _ _ _ fun e w' => e = .returned (.tuple #[]) ∧ Pens w w' F bp br (Fld.wr m o .msize) wg := pu32_w bp br bm 2 _ F o wg w h ((cell_of hb 2).trans rfl) hk.msize ho
  clear h hb hvn hvq hP hmF hr hf hrF hk hs ho
  go_enter Tryz.func52, Tryz.ntmps52
  go_wp2_with fail
  refine hT.mono ?_
  rintro e w1 ⟨rfl, hp⟩
  go_wp2
  go_end0
  exact ⟨rfl, hp⟩
set_option maxHeartbeats 1000000 in
theorem fw_version (bp br bm : Nat) (F P : Nat → Prop) (o : Wr) (wg : Bool) (r : Rd) (m : Msg) (w : World) (h : PenAt w F bp 0 o.1 br o.2 wg) (hm : MsgAt w P bm m) (hP : ∀ g, P g → ¬ F g) (hmF : ¬ F bm) (hr : w.heap[br]? = some (rdO r)) (hf : r.f = 0) (hrF : ¬ F br) (hk : m.Ok) (hs : m.Small) (ho : o.1.length ≤ 8192) :
    Calls Tryz.prog 53 #[.pointer (some ⟨bp, 0, none⟩), .pointer (some ⟨bm, 0, none⟩)] w fun e w' => e = .returned (.tuple #[]) ∧ Pens w w' F bp br (Fld.wr m o .version) wg := by
  obtain ⟨vn, vq, hb, hvn, hvq⟩ := hm
  have hT : Calls _ _ _ _ fun e w' => e = .returned (.tuple #[]) ∧ Pens w w' F bp br (Fld.wr m o .version) wg := ptext_w bp br bm 3 F o wg _ w h ((cell_of hb 3).trans rfl) hs.version ho
  clear h hb hvn hvq hP hmF hr hf hrF hk hs ho
  go_enter Tryz.func53, Tryz.ntmps53
  go_wp2_with fail
  refine hT.mono ?_
  rintro e w1 ⟨rfl, hp⟩
  go_wp2
  go_end0
  exact ⟨rfl, hp⟩
set_option maxHeartbeats 1000000 in
theorem fw_fid (bp br bm : Nat) (F P : Nat → Prop) (o : Wr) (wg : Bool) (r : Rd) (m : Msg) (w : World) (h : PenAt w F bp 0 o.1 br o.2 wg) (hm : MsgAt w P bm m) (hP : ∀ g, P g → ¬ F g) (hmF : ¬ F bm) (hr : w.heap[br]? = some (rdO r)) (hf : r.f = 0) (hrF : ¬ F br) (hk : m.Ok) (hs : m.Small) (ho : o.1.length ≤ 8192) :
    Calls Tryz.prog 58 #[.pointer (some ⟨bp, 0, none⟩), .pointer (some ⟨bm, 0, none⟩)] w fun e w' => e = .returned (.tuple #[]) ∧ Pens w w' F bp br (Fld.wr m o .fid) wg := by
  obtain ⟨vn, vq, hb, hvn, hvq⟩ := hm
  have hT : Calls _ _ _ _ fun e w' => e = .returned (.tuple #[]) ∧ Pens w w' F bp br (Fld.wr m o .fid) wg := pu32_w bp br bm 4 _ F o wg w h ((cell_of hb 4).trans rfl) hk.fid ho
  clear h hb hvn hvq hP hmF hr hf hrF hk hs ho
  go_enter Tryz.func58, Tryz.ntmps58
  go_wp2_with fail
  refine hT.mono ?_
  rintro e w1 ⟨rfl, hp⟩
  go_wp2
  go_end0
  exact ⟨rfl, hp⟩
set_option maxHeartbeats 1000000 in
theorem fw_afid (bp br bm : Nat) (F P : Nat → Prop) (o : Wr) (wg : Bool) (r : Rd) (m : Msg) (w : World) (h : PenAt w F bp 0 o.1 br o.2 wg) (hm : MsgAt w P bm m) (hP : ∀ g, P g → ¬ F g) (hmF : ¬ F bm) (hr : w.heap[br]? = some (rdO r)) (hf : r.f = 0) (hrF : ¬ F br) (hk : m.Ok) (hs : m.Small) (ho : o.1.length ≤ 8192) :
    Calls Tryz.prog 54 #[.pointer (some ⟨bp, 0, none⟩), .pointer (some ⟨bm, 0, none⟩)] w fun e w' => e = .returned (.tuple #[]) ∧ Pens w w' F bp br (Fld.wr m o .afid) wg := by
  obtain ⟨vn, vq, hb, hvn, hvq⟩ := hm
  have hT : Calls _ _ _ _ fun e w' => e = .returned (.tuple #[]) ∧ Pens w w' F bp br (Fld.wr m o .afid) wg := pu32_w bp br bm 5 _ F o wg w h ((cell_of hb 5).trans rfl) hk.afid ho
  clear h hb hvn hvq hP hmF hr hf hrF hk hs ho
  go_enter Tryz.func54, Tryz.ntmps54
  go_wp2_with fail
  refine hT.mono ?_
  rintro e w1 ⟨rfl, hp⟩
  go_wp2
  go_end0
  exact ⟨rfl, hp⟩
set_option maxHeartbeats 1000000 in
theorem fw_newfid (bp br bm : Nat) (F P : Nat → Prop) (o : Wr) (wg : Bool) (r : Rd) (m : Msg) (w : World) (h : PenAt w F bp 0 o.1 br o.2 wg) (hm : MsgAt w P bm m) (hP : ∀ g, P g → ¬ F g) (hmF : ¬ F bm) (hr : w.heap[br]? = some (rdO r)) (hf : r.f = 0) (hrF : ¬ F br) (hk : m.Ok) (hs : m.Small) (ho : o.1.length ≤ 8192) :
    Calls Tryz.prog 61 #[.pointer (some ⟨bp, 0, none⟩), .pointer (some ⟨bm, 0, none⟩)] w fun e w' => e = .returned (.tuple #[]) ∧ Pens w w' F bp br (Fld.wr m o .newfid) wg := by
  obtain ⟨vn, vq, hb, hvn, hvq⟩ := hm
  have hT : Calls _ _ _ _ fun e w' => e = .returned (.tuple #[]) ∧ Pens w w' F bp br (Fld.wr m o .newfid) wg := pu32_w bp br bm 6 _ F o wg w h ((cell_of hb 6).trans rfl) hk.newfid ho
  clear h hb hvn hvq hP hmF hr hf hrF hk hs ho
  go_enter Tryz.func61, Tryz.ntmps61
  go_wp2_with fail
  refine hT.mono ?_
  rintro e w1 ⟨rfl, hp⟩
  go_wp2
  go_end0
  exact ⟨rfl, hp⟩
set_option maxHeartbeats 1000000 in
theorem fw_oldtag (bp br bm : Nat) (F P : Nat → Prop) (o : Wr) (wg : Bool) (r : Rd) (m : Msg) (w : World) (h : PenAt w F bp 0 o.1 br o.2 wg) (hm : MsgAt w P bm m) (hP : ∀ g, P g → ¬ F g) (hmF : ¬ F bm) (hr : w.heap[br]? = some (rdO r)) (hf : r.f = 0) (hrF : ¬ F br) (hk : m.Ok) (hs : m.Small) (ho : o.1.length ≤ 8192) :
    Calls Tryz.prog 60 #[.pointer (some ⟨bp, 0, none⟩), .pointer (some ⟨bm, 0, none⟩)] w fun e w' => e = .returned (.tuple #[]) ∧ Pens w w' F bp br (Fld.wr m o .oldtag) wg := by
  obtain ⟨vn, vq, hb, hvn, hvq⟩ := hm
  have hT : Calls _ _ _ _ fun e w' => e = .returned (.tuple #[]) ∧ Pens w w' F bp br (Fld.wr m o .oldtag) wg := pu16_w bp br bm 7 _ F o wg w h ((cell_of hb 7).trans rfl) hk.oldtag ho
  clear h hb hvn hvq hP hmF hr hf hrF hk hs ho
  go_enter Tryz.func60, Tryz.ntmps60
  go_wp2_with fail
  refine hT.mono ?_
  rintro e w1 ⟨rfl, hp⟩
  go_wp2
  go_end0
  exact ⟨rfl, hp⟩
set_option maxHeartbeats 1000000 in
theorem fw_uname (bp br bm : Nat) (F P : Nat → Prop) (o : Wr) (wg : Bool) (r : Rd) (m : Msg) (w : World) (h : PenAt w F bp 0 o.1 br o.2 wg) (hm : MsgAt w P bm m) (hP : ∀ g, P g → ¬ F g) (hmF : ¬ F bm) (hr : w.heap[br]? = some (rdO r)) (hf : r.f = 0) (hrF : ¬ F br) (hk : m.Ok) (hs : m.Small) (ho : o.1.length ≤ 8192) :
    Calls Tryz.prog 55 #[.pointer (some ⟨bp, 0, none⟩), .pointer (some ⟨bm, 0, none⟩)] w fun e w' => e = .returned (.tuple #[]) ∧ Pens w w' F bp br (Fld.wr m o .uname) wg := by
  obtain ⟨vn, vq, hb, hvn, hvq⟩ := hm
  have hT : Calls _ _ _ _ fun e w' => e = .returned (.tuple #[]) ∧ Pens w w' F bp br (Fld.wr m o .uname) wg := ptext_w bp br bm 8 F o wg _ w h ((cell_of hb 8).trans rfl) hs.uname ho
  clear h hb hvn hvq hP hmF hr hf hrF hk hs ho
  go_enter Tryz.func55, Tryz.ntmps55
  go_wp2_with fail
  refine hT.mono ?_
  rintro e w1 ⟨rfl, hp⟩
  go_wp2
  go_end0
  exact ⟨rfl, hp⟩
set_option maxHeartbeats 1000000 in
theorem fw_aname (bp br bm : Nat) (F P : Nat → Prop) (o : Wr) (wg : Bool) (r : Rd) (m : Msg) (w : World) (h : PenAt w F bp 0 o.1 br o.2 wg) (hm : MsgAt w P bm m) (hP : ∀ g, P g → ¬ F g) (hmF : ¬ F bm) (hr : w.heap[br]? = some (rdO r)) (hf : r.f = 0) (hrF : ¬ F br) (hk : m.Ok) (hs : m.Small) (ho : o.1.length ≤ 8192) :
    Calls Tryz.prog 56 #[.pointer (some ⟨bp, 0, none⟩), .pointer (some ⟨bm, 0, none⟩)] w fun e w' => e = .returned (.tuple #[]) ∧ Pens w w' F bp br (Fld.wr m o .aname) wg := by
  obtain ⟨vn, vq, hb, hvn, hvq⟩ := hm
  have hT : Calls _ _ _ _ fun e w' => e = .returned (.tuple #[]) ∧ Pens w w' F bp br (Fld.wr m o .aname) wg := ptext_w bp br bm 9 F o wg _ w h ((cell_of hb 9).trans rfl) hs.aname ho
  clear h hb hvn hvq hP hmF hr hf hrF hk hs ho
  go_enter Tryz.func56, Tryz.ntmps56
  go_wp2_with fail
  refine hT.mono ?_
  rintro e w1 ⟨rfl, hp⟩
  go_wp2
  go_end0
  exact ⟨rfl, hp⟩
set_option maxHeartbeats 1000000 in
theorem fw_ename (bp br bm : Nat) (F P : Nat → Prop) (o : Wr) (wg : Bool) (r : Rd) (m : Msg) (w : World) (h : PenAt w F bp 0 o.1 br o.2 wg) (hm : MsgAt w P bm m) (hP : ∀ g, P g → ¬ F g) (hmF : ¬ F bm) (hr : w.heap[br]? = some (rdO r)) (hf : r.f = 0) (hrF : ¬ F br) (hk : m.Ok) (hs : m.Small) (ho : o.1.length ≤ 8192) :
    Calls Tryz.prog 59 #[.pointer (some ⟨bp, 0, none⟩), .pointer (some ⟨bm, 0, none⟩)] w fun e w' => e = .returned (.tuple #[]) ∧ Pens w w' F bp br (Fld.wr m o .ename) wg := by
  obtain ⟨vn, vq, hb, hvn, hvq⟩ := hm
  have hT : Calls _ _ _ _ fun e w' => e = .returned (.tuple #[]) ∧ Pens w w' F bp br (Fld.wr m o .ename) wg := ptext_w bp br bm 10 F o wg _ w h ((cell_of hb 10).trans rfl) hs.ename ho
  clear h hb hvn hvq hP hmF hr hf hrF hk hs ho
  go_enter Tryz.func59, Tryz.ntmps59
  go_wp2_with fail
  refine hT.mono ?_
  rintro e w1 ⟨rfl, hp⟩
  go_wp2
  go_end0
  exact ⟨rfl, hp⟩
set_option maxHeartbeats 1000000 in
theorem fw_name (bp br bm : Nat) (F P : Nat → Prop) (o : Wr) (wg : Bool) (r : Rd) (m : Msg) (w : World) (h : PenAt w F bp 0 o.1 br o.2 wg) (hm : MsgAt w P bm m) (hP : ∀ g, P g → ¬ F g) (hmF : ¬ F bm) (hr : w.heap[br]? = some (rdO r)) (hf : r.f = 0) (hrF : ¬ F br) (hk : m.Ok) (hs : m.Small) (ho : o.1.length ≤ 8192) :
    Calls Tryz.prog 66 #[.pointer (some ⟨bp, 0, none⟩), .pointer (some ⟨bm, 0, none⟩)] w fun e w' => e = .returned (.tuple #[]) ∧ Pens w w' F bp br (Fld.wr m o .name) wg := by
  obtain ⟨vn, vq, hb, hvn, hvq⟩ := hm
  have hT : Calls _ _ _ _ fun e w' => e = .returned (.tuple #[]) ∧ Pens w w' F bp br (Fld.wr m o .name) wg := ptext_w bp br bm 11 F o wg _ w h ((cell_of hb 11).trans rfl) hs.name ho
  clear h hb hvn hvq hP hmF hr hf hrF hk hs ho
  go_enter Tryz.func66, Tryz.ntmps66
  go_wp2_with fail
  refine hT.mono ?_
  rintro e w1 ⟨rfl, hp⟩
  go_wp2
  go_end0
  exact ⟨rfl, hp⟩
set_option maxHeartbeats 1000000 in
theorem fw_names (bp br bm : Nat) (F P : Nat → Prop) (o : Wr) (wg : Bool) (r : Rd) (m : Msg) (w : World) (h : PenAt w F bp 0 o.1 br o.2 wg) (hm : MsgAt w P bm m) (hP : ∀ g, P g → ¬ F g) (hmF : ¬ F bm) (hr : w.heap[br]? = some (rdO r)) (hf : r.f = 0) (hrF : ¬ F br) (hk : m.Ok) (hs : m.Small) (ho : o.1.length ≤ 8192) :
    Calls Tryz.prog 62 #[.pointer (some ⟨bp, 0, none⟩), .pointer (some ⟨bm, 0, none⟩)] w fun e w' => e = .returned (.tuple #[]) ∧ Pens w w' F bp br (Fld.wr m o .names) wg := by
  obtain ⟨vn, vq, hb, hvn, hvq⟩ := hm
  have hT : Calls _ _ _ _ fun e w' => e = .returned (.tuple #[]) ∧ Pens w w' F bp br (Fld.wr m o .names) wg := list_names_w bp br bm F P o wg r vn m.names hs.names w h hvn hP hmF ((cell_of hb 12).trans rfl) hr hf hrF hs.nl ho
  clear h hb hvn hvq hP hmF hr hf hrF hk hs ho
  go_enter Tryz.func62, Tryz.ntmps62
  go_wp2_with fail
  refine hT.mono ?_
  rintro e w1 ⟨rfl, hp⟩
  go_wp2
  go_end0
  exact ⟨rfl, hp⟩
set_option maxHeartbeats 1000000 in
theorem fw_qid (bp br bm : Nat) (F P : Nat → Prop) (o : Wr) (wg : Bool) (r : Rd) (m : Msg) (w : World) (h : PenAt w F bp 0 o.1 br o.2 wg) (hm : MsgAt w P bm m) (hP : ∀ g, P g → ¬ F g) (hmF : ¬ F bm) (hr : w.heap[br]? = some (rdO r)) (hf : r.f = 0) (hrF : ¬ F br) (hk : m.Ok) (hs : m.Small) (ho : o.1.length ≤ 8192) :
    Calls Tryz.prog 57 #[.pointer (some ⟨bp, 0, none⟩), .pointer (some ⟨bm, 0, none⟩)] w fun e w' => e = .returned (.tuple #[]) ∧ Pens w w' F bp br (Fld.wr m o .qid) wg := by
  obtain ⟨vn, vq, hb, hvn, hvq⟩ := hm
  have hT : Calls _ _ _ _ fun e w' => e = .returned (.tuple #[]) ∧ Pens w w' F bp br (Fld.wr m o .qid) wg := pqid_w bp br bm 13 F o wg m.qid w h hk.qid hmF ((cell_of hb 13).trans rfl) ((cell_of hb 14).trans rfl) ((cell_of hb 15).trans rfl) ho
  clear h hb hvn hvq hP hmF hr hf hrF hk hs ho
  go_enter Tryz.func57, Tryz.ntmps57
  go_wp2_with fail
  refine hT.mono ?_
  rintro e w1 ⟨rfl, hp⟩
  go_wp2
  go_end0
  exact ⟨rfl, hp⟩
set_option maxHeartbeats 1000000 in
theorem fw_qids (bp br bm : Nat) (F P : Nat → Prop) (o : Wr) (wg : Bool) (r : Rd) (m : Msg) (w : World) (h : PenAt w F bp 0 o.1 br o.2 wg) (hm : MsgAt w P bm m) (hP : ∀ g, P g → ¬ F g) (hmF : ¬ F bm) (hr : w.heap[br]? = some (rdO r)) (hf : r.f = 0) (hrF : ¬ F br) (hk : m.Ok) (hs : m.Small) (ho : o.1.length ≤ 8192) :
    Calls Tryz.prog 63 #[.pointer (some ⟨bp, 0, none⟩), .pointer (some ⟨bm, 0, none⟩)] w fun e w' => e = .returned (.tuple #[]) ∧ Pens w w' F bp br (Fld.wr m o .qids) wg := by
  obtain ⟨vn, vq, hb, hvn, hvq⟩ := hm
  have hT : Calls _ _ _ _ fun e w' => e = .returned (.tuple #[]) ∧ Pens w w' F bp br (Fld.wr m o .qids) wg := list_qids_w bp br bm F P o wg r vq m.qids hk.qids w h hvq hP hmF ((cell_of hb 16).trans rfl) hr hf hrF hs.ql ho
  clear h hb hvn hvq hP hmF hr hf hrF hk hs ho
  go_enter Tryz.func63, Tryz.ntmps63
  go_wp2_with fail
  refine hT.mono ?_
  rintro e w1 ⟨rfl, hp⟩
  go_wp2
  go_end0
  exact ⟨rfl, hp⟩
set_option maxHeartbeats 1000000 in
theorem fw_mode (bp br bm : Nat) (F P : Nat → Prop) (o : Wr) (wg : Bool) (r : Rd) (m : Msg) (w : World) (h : PenAt w F bp 0 o.1 br o.2 wg) (hm : MsgAt w P bm m) (hP : ∀ g, P g → ¬ F g) (hmF : ¬ F bm) (hr : w.heap[br]? = some (rdO r)) (hf : r.f = 0) (hrF : ¬ F br) (hk : m.Ok) (hs : m.Small) (ho : o.1.length ≤ 8192) :
    Calls Tryz.prog 64 #[.pointer (some ⟨bp, 0, none⟩), .pointer (some ⟨bm, 0, none⟩)] w fun e w' => e = .returned (.tuple #[]) ∧ Pens w w' F bp br (Fld.wr m o .mode) wg := by
  obtain ⟨vn, vq, hb, hvn, hvq⟩ := hm
  have hT : Calls _ _ _ _ fun e w' => e = .returned (.tuple #[]) ∧ Pens w w' F bp br (Fld.wr m o .mode) wg := pu8_w bp br bm 17 _ F o wg w h ((cell_of hb 17).trans rfl) hk.mode ho
  clear h hb hvn hvq hP hmF hr hf hrF hk hs ho
  go_enter Tryz.func64, Tryz.ntmps64
  go_wp2_with fail
  refine hT.mono ?_
  rintro e w1 ⟨rfl, hp⟩
  go_wp2
  go_end0
  exact ⟨rfl, hp⟩
set_option maxHeartbeats 1000000 in
theorem fw_perm (bp br bm : Nat) (F P : Nat → Prop) (o : Wr) (wg : Bool) (r : Rd) (m : Msg) (w : World) (h : PenAt w F bp 0 o.1 br o.2 wg) (hm : MsgAt w P bm m) (hP : ∀ g, P g → ¬ F g) (hmF : ¬ F bm) (hr : w.heap[br]? = some (rdO r)) (hf : r.f = 0) (hrF : ¬ F br) (hk : m.Ok) (hs : m.Small) (ho : o.1.length ≤ 8192) :
    Calls Tryz.prog 67 #[.pointer (some ⟨bp, 0, none⟩), .pointer (some ⟨bm, 0, none⟩)] w fun e w' => e = .returned (.tuple #[]) ∧ Pens w w' F bp br (Fld.wr m o .perm) wg := by
  obtain ⟨vn, vq, hb, hvn, hvq⟩ := hm
  have hT : Calls _ _ _ _ fun e w' => e = .returned (.tuple #[]) ∧ Pens w w' F bp br (Fld.wr m o .perm) wg := pu32_w bp br bm 18 _ F o wg w h ((cell_of hb 18).trans rfl) hk.perm ho
  clear h hb hvn hvq hP hmF hr hf hrF hk hs ho
  go_enter Tryz.func67, Tryz.ntmps67
  go_wp2_with fail
  refine hT.mono ?_
  rintro e w1 ⟨rfl, hp⟩
  go_wp2
  go_end0
  exact ⟨rfl, hp⟩
set_option maxHeartbeats 1000000 in
theorem fw_iounit (bp br bm : Nat) (F P : Nat → Prop) (o : Wr) (wg : Bool) (r : Rd) (m : Msg) (w : World) (h : PenAt w F bp 0 o.1 br o.2 wg) (hm : MsgAt w P bm m) (hP : ∀ g, P g → ¬ F g) (hmF : ¬ F bm) (hr : w.heap[br]? = some (rdO r)) (hf : r.f = 0) (hrF : ¬ F br) (hk : m.Ok) (hs : m.Small) (ho : o.1.length ≤ 8192) :
    Calls Tryz.prog 65 #[.pointer (some ⟨bp, 0, none⟩), .pointer (some ⟨bm, 0, none⟩)] w fun e w' => e = .returned (.tuple #[]) ∧ Pens w w' F bp br (Fld.wr m o .iounit) wg := by
  obtain ⟨vn, vq, hb, hvn, hvq⟩ := hm
  have hT : Calls _ _ _ _ fun e w' => e = .returned (.tuple #[]) ∧ Pens w w' F bp br (Fld.wr m o .iounit) wg := pu32_w bp br bm 19 _ F o wg w h ((cell_of hb 19).trans rfl) hk.iounit ho
  clear h hb hvn hvq hP hmF hr hf hrF hk hs ho
  go_enter Tryz.func65, Tryz.ntmps65
  go_wp2_with fail
  refine hT.mono ?_
  rintro e w1 ⟨rfl, hp⟩
  go_wp2
  go_end0
  exact ⟨rfl, hp⟩
set_option maxHeartbeats 1000000 in
theorem fw_offset (bp br bm : Nat) (F P : Nat → Prop) (o : Wr) (wg : Bool) (r : Rd) (m : Msg) (w : World) (h : PenAt w F bp 0 o.1 br o.2 wg) (hm : MsgAt w P bm m) (hP : ∀ g, P g → ¬ F g) (hmF : ¬ F bm) (hr : w.heap[br]? = some (rdO r)) (hf : r.f = 0) (hrF : ¬ F br) (hk : m.Ok) (hs : m.Small) (ho : o.1.length ≤ 8192) :
    Calls Tryz.prog 68 #[.pointer (some ⟨bp, 0, none⟩), .pointer (some ⟨bm, 0, none⟩)] w fun e w' => e = .returned (.tuple #[]) ∧ Pens w w' F bp br (Fld.wr m o .offset) wg := by
  obtain ⟨vn, vq, hb, hvn, hvq⟩ := hm
  have hT : Calls _ _ _ _ fun e w' => e = .returned (.tuple #[]) ∧ Pens w w' F bp br (Fld.wr m o .offset) wg := pu64_w bp br bm 20 _ F o wg w h ((cell_of hb 20).trans rfl) hk.offset ho
  clear h hb hvn hvq hP hmF hr hf hrF hk hs ho
  go_enter Tryz.func68, Tryz.ntmps68
  go_wp2_with fail
  refine hT.mono ?_
  rintro e w1 ⟨rfl, hp⟩
  go_wp2
  go_end0
  exact ⟨rfl, hp⟩
set_option maxHeartbeats 1000000 in
theorem fw_count (bp br bm : Nat) (F P : Nat → Prop) (o : Wr) (wg : Bool) (r : Rd) (m : Msg) (w : World) (h : PenAt w F bp 0 o.1 br o.2 wg) (hm : MsgAt w P bm m) (hP : ∀ g, P g → ¬ F g) (hmF : ¬ F bm) (hr : w.heap[br]? = some (rdO r)) (hf : r.f = 0) (hrF : ¬ F br) (hk : m.Ok) (hs : m.Small) (ho : o.1.length ≤ 8192) :
    Calls Tryz.prog 69 #[.pointer (some ⟨bp, 0, none⟩), .pointer (some ⟨bm, 0, none⟩)] w fun e w' => e = .returned (.tuple #[]) ∧ Pens w w' F bp br (Fld.wr m o .count) wg := by
  obtain ⟨vn, vq, hb, hvn, hvq⟩ := hm
  have hT : Calls _ _ _ _ fun e w' => e = .returned (.tuple #[]) ∧ Pens w w' F bp br (Fld.wr m o .count) wg := pu32_w bp br bm 21 _ F o wg w h ((cell_of hb 21).trans rfl) hk.count ho
  clear h hb hvn hvq hP hmF hr hf hrF hk hs ho
  go_enter Tryz.func69, Tryz.ntmps69
  go_wp2_with fail
  refine hT.mono ?_
  rintro e w1 ⟨rfl, hp⟩
  go_wp2
  go_end0
  exact ⟨rfl, hp⟩
set_option maxHeartbeats 1000000 in
theorem fw_data (bp br bm : Nat) (F P : Nat → Prop) (o : Wr) (wg : Bool) (r : Rd) (m : Msg) (w : World) (h : PenAt w F bp 0 o.1 br o.2 wg) (hm : MsgAt w P bm m) (hP : ∀ g, P g → ¬ F g) (hmF : ¬ F bm) (hr : w.heap[br]? = some (rdO r)) (hf : r.f = 0) (hrF : ¬ F br) (hk : m.Ok) (hs : m.Small) (ho : o.1.length ≤ 8192) :
    Calls Tryz.prog 70 #[.pointer (some ⟨bp, 0, none⟩), .pointer (some ⟨bm, 0, none⟩)] w fun e w' => e = .returned (.tuple #[]) ∧ Pens w w' F bp br (Fld.wr m o .data) wg := by
  obtain ⟨vn, vq, hb, hvn, hvq⟩ := hm
  have hT : Calls _ _ _ _ fun e w' => e = .returned (.tuple #[]) ∧ Pens w w' F bp br (Fld.wr m o .data) wg := pdata_w bp br bm 22 F o wg _ w h ((cell_of hb 22).trans rfl) hs.data ho
  clear h hb hvn hvq hP hmF hr hf hrF hk hs ho
  go_enter Tryz.func70, Tryz.ntmps70
  go_wp2_with fail
  refine hT.mono ?_
  rintro e w1 ⟨rfl, hp⟩
  go_wp2
  go_end0
  exact ⟨rfl, hp⟩
set_option maxHeartbeats 1000000 in
theorem fw_stat (bp br bm : Nat) (F P : Nat → Prop) (o : Wr) (wg : Bool) (r : Rd) (m : Msg) (w : World) (h : PenAt w F bp 0 o.1 br o.2 wg) (hm : MsgAt w P bm m) (hP : ∀ g, P g → ¬ F g) (hmF : ¬ F bm) (hr : w.heap[br]? = some (rdO r)) (hf : r.f = 0) (hrF : ¬ F br) (hk : m.Ok) (hs : m.Small) (ho : o.1.length ≤ 8192) :
    Calls Tryz.prog 71 #[.pointer (some ⟨bp, 0, none⟩), .pointer (some ⟨bm, 0, none⟩)] w fun e w' => e = .returned (.tuple #[]) ∧ Pens w w' F bp br (Fld.wr m o .stat) wg := by
  obtain ⟨vn, vq, hb, hvn, hvq⟩ := hm
  have hT : Calls _ _ _ _ fun e w' => e = .returned (.tuple #[]) ∧ Pens w w' F bp br (Fld.wr m o .stat) wg := pstat_w bp br bm F o wg m.stat w h ⟨(cell_of hb 23).trans rfl, (cell_of hb 24).trans rfl, (cell_of hb 25).trans rfl, (cell_of hb 26).trans rfl, (cell_of hb 27).trans rfl, (cell_of hb 28).trans rfl, (cell_of hb 29).trans rfl, (cell_of hb 30).trans rfl, (cell_of hb 31).trans rfl, (cell_of hb 32).trans rfl, (cell_of hb 33).trans rfl, (cell_of hb 34).trans rfl, (cell_of hb 35).trans rfl⟩ hk.stat hs.st ho
  clear h hb hvn hvq hP hmF hr hf hrF hk hs ho
  go_enter Tryz.func71, Tryz.ntmps71
  go_wp2_with fail
  refine hT.mono ?_
  rintro e w1 ⟨rfl, hp⟩
  go_wp2
  go_end0
  exact ⟨rfl, hp⟩
theorem fld_w (f : Fld) (bp br bm : Nat) (F P : Nat → Prop) (o : Wr) (wg : Bool) (r : Rd) (m : Msg) (w : World) (h : PenAt w F bp 0 o.1 br o.2 wg) (hm : MsgAt w P bm m) (hP : ∀ g, P g → ¬ F g) (hmF : ¬ F bm) (hr : w.heap[br]? = some (rdO r)) (hf : r.f = 0) (hrF : ¬ F br) (hk : m.Ok) (hs : m.Small) (ho : o.1.length ≤ 8192) :
    Calls Tryz.prog (fnOf f) #[.pointer (some ⟨bp, 0, none⟩), .pointer (some ⟨bm, 0, none⟩)] w fun e w' => e = .returned (.tuple #[]) ∧ Pens w w' F bp br (Fld.wr m o f) wg := by
  cases f
  · exact fw_msize bp br bm F P o wg r m w h hm hP hmF hr hf hrF hk hs ho
  · exact fw_version bp br bm F P o wg r m w h hm hP hmF hr hf hrF hk hs ho
  · exact fw_fid bp br bm F P o wg r m w h hm hP hmF hr hf hrF hk hs ho
  · exact fw_afid bp br bm F P o wg r m w h hm hP hmF hr hf hrF hk hs ho
  · exact fw_newfid bp br bm F P o wg r m w h hm hP hmF hr hf hrF hk hs ho
  · exact fw_oldtag bp br bm F P o wg r m w h hm hP hmF hr hf hrF hk hs ho
  · exact fw_uname bp br bm F P o wg r m w h hm hP hmF hr hf hrF hk hs ho
  · exact fw_aname bp br bm F P o wg r m w h hm hP hmF hr hf hrF hk hs ho
  · exact fw_ename bp br bm F P o wg r m w h hm hP hmF hr hf hrF hk hs ho
  · exact fw_name bp br bm F P o wg r m w h hm hP hmF hr hf hrF hk hs ho
  · exact fw_names bp br bm F P o wg r m w h hm hP hmF hr hf hrF hk hs ho
  · exact fw_qid bp br bm F P o wg r m w h hm hP hmF hr hf hrF hk hs ho
  · exact fw_qids bp br bm F P o wg r m w h hm hP hmF hr hf hrF hk hs ho
  · exact fw_mode bp br bm F P o wg r m w h hm hP hmF hr hf hrF hk hs ho
  · exact fw_perm bp br bm F P o wg r m w h hm hP hmF hr hf hrF hk hs ho
  · exact fw_iounit bp br bm F P o wg r m w h hm hP hmF hr hf hrF hk hs ho
  · exact fw_offset bp br bm F P o wg r m w h hm hP hmF hr hf hrF hk hs ho
  · exact fw_count bp br bm F P o wg r m w h hm hP hmF hr hf hrF hk hs ho
  · exact fw_data bp br bm F P o wg r m w h hm hP hmF hr hf hrF hk hs ho
  · exact fw_stat bp br bm F P o wg r m w h hm hP hmF hr hf hrF hk hs ho
theorem Fld.wr_le (m : Msg) (o : Wr) (f : Fld) (h : o.1.length ≤ 8192) : (Fld.wr m o f).1.length ≤ 8192 := by
  cases f
  all_goals simp only [Fld.wr]
  · exact wrB_le o _ h
  · exact wrText_le o _ h
  · exact wrB_le o _ h
  · exact wrB_le o _ h
  · exact wrB_le o _ h
  · exact wrB_le o _ h
  · exact wrText_le o _ h
  · exact wrText_le o _ h
  · exact wrText_le o _ h
  · exact wrText_le o _ h
  · exact wrTexts_le (m.names.take 17) (wrB o (leBytes 2 (min m.names.length 17))) (wrB_le o _ h)
  · exact wrQid_le o _ h
  · exact wrQids_le (m.qids.take 17) (wrB o (leBytes 2 (min m.qids.length 17))) (wrB_le o _ h)
  · exact wrB_le o _ h
  · exact wrB_le o _ h
  · exact wrB_le o _ h
  · exact wrB_le o _ h
  · exact wrB_le o _ h
  · exact wrB_le o (leBytes 4 m.data.size ++ m.data.data.toList) h
  · exact wrStat_le o _ h
/-- any of the twenty can be called -/
theorem fld_enters (f : Fld) (args : Array Value) (w : World) : (callFunc (fnOf f) args).run Tryz.prog w = .ok (.enter (fnOf f) args) w := by
  cases f
  · exact enters_of Tryz.func52 (by kernel_rfl) rfl args w
  · exact enters_of Tryz.func53 (by kernel_rfl) rfl args w
  · exact enters_of Tryz.func58 (by kernel_rfl) rfl args w
  · exact enters_of Tryz.func54 (by kernel_rfl) rfl args w
  · exact enters_of Tryz.func61 (by kernel_rfl) rfl args w
  · exact enters_of Tryz.func60 (by kernel_rfl) rfl args w
  · exact enters_of Tryz.func55 (by kernel_rfl) rfl args w
  · exact enters_of Tryz.func56 (by kernel_rfl) rfl args w
  · exact enters_of Tryz.func59 (by kernel_rfl) rfl args w
  · exact enters_of Tryz.func66 (by kernel_rfl) rfl args w
  · exact enters_of Tryz.func62 (by kernel_rfl) rfl args w
  · exact enters_of Tryz.func57 (by kernel_rfl) rfl args w
  · exact enters_of Tryz.func63 (by kernel_rfl) rfl args w
  · exact enters_of Tryz.func64 (by kernel_rfl) rfl args w
  · exact enters_of Tryz.func67 (by kernel_rfl) rfl args w
  · exact enters_of Tryz.func65 (by kernel_rfl) rfl args w
  · exact enters_of Tryz.func68 (by kernel_rfl) rfl args w
  · exact enters_of Tryz.func69 (by kernel_rfl) rfl args w
  · exact enters_of Tryz.func70 (by kernel_rfl) rfl args w
  · exact enters_of Tryz.func71 (by kernel_rfl) rfl args w
end Go.Proofs.YtklpopmjpgdjnaaGreatDoor
