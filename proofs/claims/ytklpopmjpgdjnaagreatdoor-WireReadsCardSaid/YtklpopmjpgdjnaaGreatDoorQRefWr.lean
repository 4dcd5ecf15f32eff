/- The document's text, more and write: a field as bytes. -/
import Derived.Test.YtklpopmjpgdjnaaGreatDoorQGf
import Derived.Test.YtklpopmjpgdjnaaGreatDoorQPenF
import Derived.Test.YtklpopmjpgdjnaaGreatDoorQStatREnc
import Derived.Test.YtklpopmjpgdjnaaGreatDoorQGc
import Derived.Deep.DeepCutAuto
set_option linter.unusedVariables false
set_option linter.unusedSimpArgs false
namespace Go.Proofs.YtklpopmjpgdjnaaGreatDoor
open Go.RowKit

/-- a field's name -/
def fname : Fld → ByteArray
  | .msize => { data := #[109, 115, 105, 122, 101] }
  | .version => { data := #[118, 101, 114, 115, 105, 111, 110] }
  | .fid => { data := #[102, 105, 100] }
  | .afid => { data := #[97, 102, 105, 100] }
  | .newfid => { data := #[110, 101, 119, 102, 105, 100] }
  | .oldtag => { data := #[111, 108, 100, 116, 97, 103] }
  | .uname => { data := #[117, 110, 97, 109, 101] }
  | .aname => { data := #[97, 110, 97, 109, 101] }
  | .ename => { data := #[101, 110, 97, 109, 101] }
  | .name => { data := #[110, 97, 109, 101] }
  | .names => { data := #[110, 97, 109, 101, 115] }
  | .qid => { data := #[113, 105, 100] }
  | .qids => { data := #[113, 105, 100, 115] }
  | .mode => { data := #[109, 111, 100, 101] }
  | .perm => { data := #[112, 101, 114, 109] }
  | .iounit => { data := #[105, 111, 117, 110, 105, 116] }
  | .offset => { data := #[111, 102, 102, 115, 101, 116] }
  | .count => { data := #[99, 111, 117, 110, 116] }
  | .data => { data := #[100, 97, 116, 97] }
  | .stat => { data := #[115, 116, 97, 116] }
/-- a field as the document's write gives it -/
def wfB (m : Msg) : Fld → ByteArray × Bool
  | .version => (bs (txt m.version), decide (m.version.size ≤ 65535)) | .uname => (bs (txt m.uname), decide (m.uname.size ≤ 65535)) | .aname => (bs (txt m.aname), decide (m.aname.size ≤ 65535))
  | .ename => (bs (txt m.ename), decide (m.ename.size ≤ 65535)) | .name => (bs (txt m.name), decide (m.name.size ≤ 65535))
  | .names => if (m.names.all fun s => decide (s.size ≤ 65535)) = true then (bs (leBytes 2 m.names.length ++ m.names.flatMap txt), decide (m.names.length ≤ 16)) else (ByteArray.empty, false)
  | .qids => (bs (leBytes 2 m.qids.length ++ (m.qids.take 17).flatMap qdB), decide (m.qids.length ≤ 16))
  | .stat => if (encS m.stat).2 ≠ 0 then (ByteArray.empty, false) else (bs (leBytes 2 (encS m.stat).1.size ++ (encS m.stat).1.data.toList), decide ((encS m.stat).1.size ≤ 65535))
  | f => (bs (fldB m f), true)
theorem rtext_any (s : ByteArray) (w : World) (hs : s.size ≤ 262144) :
    Calls Tryz.prog 105 #[.string s] w fun e w' => e = .returned (.tuple #[.string (bs (txt s)), .bool (decide (s.size ≤ 65535))]) ∧ Mod (fun _ => False) w w' := by
  have hT := t23t_any s w hs
  go_enter Tryz.func105, Tryz.ntmps105
  go_wp2_with fail
  refine hT.mono ?_
  rintro e w1 ⟨rfl, m1⟩
  go_wp2
  go_ret2
  exact ⟨by congr 3; simp; omega, m1⟩

theorem msg_len36 (m : Msg) (vn vq : Value) : (m.cells vn vq).length = 36 := rfl

set_option maxHeartbeats 2000000 in
set_option maxRecDepth 100000 in
theorem write_msize (m : Msg) (vn vq : Value) (P : Nat → Prop) (w : World) (hk : m.Ok) (hs : m.Small) (hn : SlAt w P vn (m.names.map .string)) (hq : RecsAt Qd.cells 3 w P vq m.qids) :
    Calls Tryz.prog 38 #[.agg (m.cells vn vq).toArray, .string (fname .msize)] w fun e w' => e = .returned (.tuple #[.string (wfB m .msize).1, .bool (wfB m .msize).2]) ∧ Mod (fun _ => False) w w' := by
  obtain ⟨W, hW⟩ : ∃ W, w.alloc (.cells (m.cells vn vq).toArray 33) = W := ⟨_, rfl⟩
  have hb : W.heap[w.heap.size]? = some (msgO m vn vq) := by subst hW; exact new_at _ _
  have m0 : Mod (fun _ => False) w W := by subst hW; exact (Mod.refl _ w).alloc _
  have HN : Hid (SlAt W P vn (m.names.map .string)) := hn.mod m0 fun _ _ _ x => x
  have HQ : Hid (RecsAt Qd.cells 3 W P vq m.qids) := hq.mod m0 fun _ _ _ x => x
  have HB : Hid (W.heap[w.heap.size]? = some (msgO m vn vq)) := hb
  have M0 : Hid (Mod (fun _ => False) w W) := m0
  have c : W.cell? ⟨w.heap.size, 2, none⟩ = some (.int .u32 m.msize) := (cell_of hb 2).trans rfl
  have hx := hk.msize
  have hw : IntKind.u64.wrap (m.msize : Int) = m.msize := by rw [IntKind.wrap_u64]; omega
  have hT := fun U => n23m_any m.msize 4 U (by omega) (by decide) (by decide)
  clear hb m0 hn hq
  go_enter Tryz.func38, Tryz.ntmps38
  unfold fname
  go_wp2_with fail
  refine (hT _).mono ?_
  rintro e w1 ⟨rfl, m1⟩
  clear hT
  go_wp2
  go_ret2
  exact ⟨rfl, M0.out.trans m1⟩
set_option maxHeartbeats 2000000 in
set_option maxRecDepth 100000 in
theorem write_fid (m : Msg) (vn vq : Value) (P : Nat → Prop) (w : World) (hk : m.Ok) (hs : m.Small) (hn : SlAt w P vn (m.names.map .string)) (hq : RecsAt Qd.cells 3 w P vq m.qids) :
    Calls Tryz.prog 38 #[.agg (m.cells vn vq).toArray, .string (fname .fid)] w fun e w' => e = .returned (.tuple #[.string (wfB m .fid).1, .bool (wfB m .fid).2]) ∧ Mod (fun _ => False) w w' := by
  obtain ⟨W, hW⟩ : ∃ W, w.alloc (.cells (m.cells vn vq).toArray 33) = W := ⟨_, rfl⟩
  have hb : W.heap[w.heap.size]? = some (msgO m vn vq) := by subst hW; exact new_at _ _
  have m0 : Mod (fun _ => False) w W := by subst hW; exact (Mod.refl _ w).alloc _
  have HN : Hid (SlAt W P vn (m.names.map .string)) := hn.mod m0 fun _ _ _ x => x
  have HQ : Hid (RecsAt Qd.cells 3 W P vq m.qids) := hq.mod m0 fun _ _ _ x => x
  have HB : Hid (W.heap[w.heap.size]? = some (msgO m vn vq)) := hb
  have M0 : Hid (Mod (fun _ => False) w W) := m0
  have c : W.cell? ⟨w.heap.size, 4, none⟩ = some (.int .u32 m.fid) := (cell_of hb 4).trans rfl
  have hx := hk.fid
  have hw : IntKind.u64.wrap (m.fid : Int) = m.fid := by rw [IntKind.wrap_u64]; omega
  have hT := fun U => n23m_any m.fid 4 U (by omega) (by decide) (by decide)
  clear hb m0 hn hq
  go_enter Tryz.func38, Tryz.ntmps38
  unfold fname
  go_wp2_with fail
  refine (hT _).mono ?_
  rintro e w1 ⟨rfl, m1⟩
  clear hT
  go_wp2
  go_ret2
  exact ⟨rfl, M0.out.trans m1⟩
set_option maxHeartbeats 2000000 in
set_option maxRecDepth 100000 in
theorem write_afid (m : Msg) (vn vq : Value) (P : Nat → Prop) (w : World) (hk : m.Ok) (hs : m.Small) (hn : SlAt w P vn (m.names.map .string)) (hq : RecsAt Qd.cells 3 w P vq m.qids) :
    Calls Tryz.prog 38 #[.agg (m.cells vn vq).toArray, .string (fname .afid)] w fun e w' => e = .returned (.tuple #[.string (wfB m .afid).1, .bool (wfB m .afid).2]) ∧ Mod (fun _ => False) w w' := by
  obtain ⟨W, hW⟩ : ∃ W, w.alloc (.cells (m.cells vn vq).toArray 33) = W := ⟨_, rfl⟩
  have hb : W.heap[w.heap.size]? = some (msgO m vn vq) := by subst hW; exact new_at _ _
  have m0 : Mod (fun _ => False) w W := by subst hW; exact (Mod.refl _ w).alloc _
  have HN : Hid (SlAt W P vn (m.names.map .string)) := hn.mod m0 fun _ _ _ x => x
  have HQ : Hid (RecsAt Qd.cells 3 W P vq m.qids) := hq.mod m0 fun _ _ _ x => x
  have HB : Hid (W.heap[w.heap.size]? = some (msgO m vn vq)) := hb
  have M0 : Hid (Mod (fun _ => False) w W) := m0
  have c : W.cell? ⟨w.heap.size, 5, none⟩ = some (.int .u32 m.afid) := (cell_of hb 5).trans rfl
  have hx := hk.afid
  have hw : IntKind.u64.wrap (m.afid : Int) = m.afid := by rw [IntKind.wrap_u64]; omega
  have hT := fun U => n23m_any m.afid 4 U (by omega) (by decide) (by decide)
  clear hb m0 hn hq
  go_enter Tryz.func38, Tryz.ntmps38
  unfold fname
  go_wp2_with fail
  refine (hT _).mono ?_
  rintro e w1 ⟨rfl, m1⟩
  clear hT
  go_wp2
  go_ret2
  exact ⟨rfl, M0.out.trans m1⟩
set_option maxHeartbeats 2000000 in
set_option maxRecDepth 100000 in
theorem write_newfid (m : Msg) (vn vq : Value) (P : Nat → Prop) (w : World) (hk : m.Ok) (hs : m.Small) (hn : SlAt w P vn (m.names.map .string)) (hq : RecsAt Qd.cells 3 w P vq m.qids) :
    Calls Tryz.prog 38 #[.agg (m.cells vn vq).toArray, .string (fname .newfid)] w fun e w' => e = .returned (.tuple #[.string (wfB m .newfid).1, .bool (wfB m .newfid).2]) ∧ Mod (fun _ => False) w w' := by
  obtain ⟨W, hW⟩ : ∃ W, w.alloc (.cells (m.cells vn vq).toArray 33) = W := ⟨_, rfl⟩
  have hb : W.heap[w.heap.size]? = some (msgO m vn vq) := by subst hW; exact new_at _ _
  have m0 : Mod (fun _ => False) w W := by subst hW; exact (Mod.refl _ w).alloc _
  have HN : Hid (SlAt W P vn (m.names.map .string)) := hn.mod m0 fun _ _ _ x => x
  have HQ : Hid (RecsAt Qd.cells 3 W P vq m.qids) := hq.mod m0 fun _ _ _ x => x
  have HB : Hid (W.heap[w.heap.size]? = some (msgO m vn vq)) := hb
  have M0 : Hid (Mod (fun _ => False) w W) := m0
  have c : W.cell? ⟨w.heap.size, 6, none⟩ = some (.int .u32 m.newfid) := (cell_of hb 6).trans rfl
  have hx := hk.newfid
  have hw : IntKind.u64.wrap (m.newfid : Int) = m.newfid := by rw [IntKind.wrap_u64]; omega
  have hT := fun U => n23m_any m.newfid 4 U (by omega) (by decide) (by decide)
  clear hb m0 hn hq
  go_enter Tryz.func38, Tryz.ntmps38
  unfold fname
  go_wp2_with fail
  refine (hT _).mono ?_
  rintro e w1 ⟨rfl, m1⟩
  clear hT
  go_wp2
  go_ret2
  exact ⟨rfl, M0.out.trans m1⟩
set_option maxHeartbeats 2000000 in
set_option maxRecDepth 100000 in
theorem write_oldtag (m : Msg) (vn vq : Value) (P : Nat → Prop) (w : World) (hk : m.Ok) (hs : m.Small) (hn : SlAt w P vn (m.names.map .string)) (hq : RecsAt Qd.cells 3 w P vq m.qids) :
    Calls Tryz.prog 38 #[.agg (m.cells vn vq).toArray, .string (fname .oldtag)] w fun e w' => e = .returned (.tuple #[.string (wfB m .oldtag).1, .bool (wfB m .oldtag).2]) ∧ Mod (fun _ => False) w w' := by
  obtain ⟨W, hW⟩ : ∃ W, w.alloc (.cells (m.cells vn vq).toArray 33) = W := ⟨_, rfl⟩
  have hb : W.heap[w.heap.size]? = some (msgO m vn vq) := by subst hW; exact new_at _ _
  have m0 : Mod (fun _ => False) w W := by subst hW; exact (Mod.refl _ w).alloc _
  have HN : Hid (SlAt W P vn (m.names.map .string)) := hn.mod m0 fun _ _ _ x => x
  have HQ : Hid (RecsAt Qd.cells 3 W P vq m.qids) := hq.mod m0 fun _ _ _ x => x
  have HB : Hid (W.heap[w.heap.size]? = some (msgO m vn vq)) := hb
  have M0 : Hid (Mod (fun _ => False) w W) := m0
  have c : W.cell? ⟨w.heap.size, 7, none⟩ = some (.int .u16 m.oldtag) := (cell_of hb 7).trans rfl
  have hx := hk.oldtag
  have hw : IntKind.u64.wrap (m.oldtag : Int) = m.oldtag := by rw [IntKind.wrap_u64]; omega
  have hT := fun U => n23m_any m.oldtag 2 U (by omega) (by decide) (by decide)
  clear hb m0 hn hq
  go_enter Tryz.func38, Tryz.ntmps38
  unfold fname
  go_wp2_with fail
  refine (hT _).mono ?_
  rintro e w1 ⟨rfl, m1⟩
  clear hT
  go_wp2
  go_ret2
  exact ⟨rfl, M0.out.trans m1⟩
set_option maxHeartbeats 2000000 in
set_option maxRecDepth 100000 in
theorem write_mode (m : Msg) (vn vq : Value) (P : Nat → Prop) (w : World) (hk : m.Ok) (hs : m.Small) (hn : SlAt w P vn (m.names.map .string)) (hq : RecsAt Qd.cells 3 w P vq m.qids) :
    Calls Tryz.prog 38 #[.agg (m.cells vn vq).toArray, .string (fname .mode)] w fun e w' => e = .returned (.tuple #[.string (wfB m .mode).1, .bool (wfB m .mode).2]) ∧ Mod (fun _ => False) w w' := by
  obtain ⟨W, hW⟩ : ∃ W, w.alloc (.cells (m.cells vn vq).toArray 33) = W := ⟨_, rfl⟩
  have hb : W.heap[w.heap.size]? = some (msgO m vn vq) := by subst hW; exact new_at _ _
  have m0 : Mod (fun _ => False) w W := by subst hW; exact (Mod.refl _ w).alloc _
  have HN : Hid (SlAt W P vn (m.names.map .string)) := hn.mod m0 fun _ _ _ x => x
  have HQ : Hid (RecsAt Qd.cells 3 W P vq m.qids) := hq.mod m0 fun _ _ _ x => x
  have HB : Hid (W.heap[w.heap.size]? = some (msgO m vn vq)) := hb
  have M0 : Hid (Mod (fun _ => False) w W) := m0
  have c : W.cell? ⟨w.heap.size, 17, none⟩ = some (.int .u8 m.mode) := (cell_of hb 17).trans rfl
  have hx := hk.mode
  have hw : IntKind.u64.wrap (m.mode : Int) = m.mode := by rw [IntKind.wrap_u64]; omega
  have hT := fun U => n23m_any m.mode 1 U (by omega) (by decide) (by decide)
  clear hb m0 hn hq
  go_enter Tryz.func38, Tryz.ntmps38
  unfold fname
  go_wp2_with fail
  refine (hT _).mono ?_
  rintro e w1 ⟨rfl, m1⟩
  clear hT
  go_wp2
  go_ret2
  exact ⟨rfl, M0.out.trans m1⟩
set_option maxHeartbeats 2000000 in
set_option maxRecDepth 100000 in
theorem write_perm (m : Msg) (vn vq : Value) (P : Nat → Prop) (w : World) (hk : m.Ok) (hs : m.Small) (hn : SlAt w P vn (m.names.map .string)) (hq : RecsAt Qd.cells 3 w P vq m.qids) :
    Calls Tryz.prog 38 #[.agg (m.cells vn vq).toArray, .string (fname .perm)] w fun e w' => e = .returned (.tuple #[.string (wfB m .perm).1, .bool (wfB m .perm).2]) ∧ Mod (fun _ => False) w w' := by
  obtain ⟨W, hW⟩ : ∃ W, w.alloc (.cells (m.cells vn vq).toArray 33) = W := ⟨_, rfl⟩
  have hb : W.heap[w.heap.size]? = some (msgO m vn vq) := by subst hW; exact new_at _ _
  have m0 : Mod (fun _ => False) w W := by subst hW; exact (Mod.refl _ w).alloc _
  have HN : Hid (SlAt W P vn (m.names.map .string)) := hn.mod m0 fun _ _ _ x => x
  have HQ : Hid (RecsAt Qd.cells 3 W P vq m.qids) := hq.mod m0 fun _ _ _ x => x
  have HB : Hid (W.heap[w.heap.size]? = some (msgO m vn vq)) := hb
  have M0 : Hid (Mod (fun _ => False) w W) := m0
  have c : W.cell? ⟨w.heap.size, 18, none⟩ = some (.int .u32 m.perm) := (cell_of hb 18).trans rfl
  have hx := hk.perm
  have hw : IntKind.u64.wrap (m.perm : Int) = m.perm := by rw [IntKind.wrap_u64]; omega
  have hT := fun U => n23m_any m.perm 4 U (by omega) (by decide) (by decide)
  clear hb m0 hn hq
  go_enter Tryz.func38, Tryz.ntmps38
  unfold fname
  go_wp2_with fail
  refine (hT _).mono ?_
  rintro e w1 ⟨rfl, m1⟩
  clear hT
  go_wp2
  go_ret2
  exact ⟨rfl, M0.out.trans m1⟩
set_option maxHeartbeats 2000000 in
set_option maxRecDepth 100000 in
theorem write_iounit (m : Msg) (vn vq : Value) (P : Nat → Prop) (w : World) (hk : m.Ok) (hs : m.Small) (hn : SlAt w P vn (m.names.map .string)) (hq : RecsAt Qd.cells 3 w P vq m.qids) :
    Calls Tryz.prog 38 #[.agg (m.cells vn vq).toArray, .string (fname .iounit)] w fun e w' => e = .returned (.tuple #[.string (wfB m .iounit).1, .bool (wfB m .iounit).2]) ∧ Mod (fun _ => False) w w' := by
  obtain ⟨W, hW⟩ : ∃ W, w.alloc (.cells (m.cells vn vq).toArray 33) = W := ⟨_, rfl⟩
  have hb : W.heap[w.heap.size]? = some (msgO m vn vq) := by subst hW; exact new_at _ _
  have m0 : Mod (fun _ => False) w W := by subst hW; exact (Mod.refl _ w).alloc _
  have HN : Hid (SlAt W P vn (m.names.map .string)) := hn.mod m0 fun _ _ _ x => x
  have HQ : Hid (RecsAt Qd.cells 3 W P vq m.qids) := hq.mod m0 fun _ _ _ x => x
  have HB : Hid (W.heap[w.heap.size]? = some (msgO m vn vq)) := hb
  have M0 : Hid (Mod (fun _ => False) w W) := m0
  have c : W.cell? ⟨w.heap.size, 19, none⟩ = some (.int .u32 m.iounit) := (cell_of hb 19).trans rfl
  have hx := hk.iounit
  have hw : IntKind.u64.wrap (m.iounit : Int) = m.iounit := by rw [IntKind.wrap_u64]; omega
  have hT := fun U => n23m_any m.iounit 4 U (by omega) (by decide) (by decide)
  clear hb m0 hn hq
  go_enter Tryz.func38, Tryz.ntmps38
  unfold fname
  go_wp2_with fail
  refine (hT _).mono ?_
  rintro e w1 ⟨rfl, m1⟩
  clear hT
  go_wp2
  go_ret2
  exact ⟨rfl, M0.out.trans m1⟩
set_option maxHeartbeats 2000000 in
set_option maxRecDepth 100000 in
theorem write_offset (m : Msg) (vn vq : Value) (P : Nat → Prop) (w : World) (hk : m.Ok) (hs : m.Small) (hn : SlAt w P vn (m.names.map .string)) (hq : RecsAt Qd.cells 3 w P vq m.qids) :
    Calls Tryz.prog 38 #[.agg (m.cells vn vq).toArray, .string (fname .offset)] w fun e w' => e = .returned (.tuple #[.string (wfB m .offset).1, .bool (wfB m .offset).2]) ∧ Mod (fun _ => False) w w' := by
  obtain ⟨W, hW⟩ : ∃ W, w.alloc (.cells (m.cells vn vq).toArray 33) = W := ⟨_, rfl⟩
  have hb : W.heap[w.heap.size]? = some (msgO m vn vq) := by subst hW; exact new_at _ _
  have m0 : Mod (fun _ => False) w W := by subst hW; exact (Mod.refl _ w).alloc _
  have HN : Hid (SlAt W P vn (m.names.map .string)) := hn.mod m0 fun _ _ _ x => x
  have HQ : Hid (RecsAt Qd.cells 3 W P vq m.qids) := hq.mod m0 fun _ _ _ x => x
  have HB : Hid (W.heap[w.heap.size]? = some (msgO m vn vq)) := hb
  have M0 : Hid (Mod (fun _ => False) w W) := m0
  have c : W.cell? ⟨w.heap.size, 20, none⟩ = some (.int .u64 m.offset) := (cell_of hb 20).trans rfl
  have hx := hk.offset
  have hw : IntKind.u64.wrap (m.offset : Int) = m.offset := by rw [IntKind.wrap_u64]; omega
  have hT := fun U => n23m_any m.offset 8 U (by omega) (by decide) (by decide)
  clear hb m0 hn hq
  go_enter Tryz.func38, Tryz.ntmps38
  unfold fname
  go_wp2_with fail
  refine (hT _).mono ?_
  rintro e w1 ⟨rfl, m1⟩
  clear hT
  go_wp2
  go_ret2
  exact ⟨rfl, M0.out.trans m1⟩
set_option maxHeartbeats 2000000 in
set_option maxRecDepth 100000 in
theorem write_count (m : Msg) (vn vq : Value) (P : Nat → Prop) (w : World) (hk : m.Ok) (hs : m.Small) (hn : SlAt w P vn (m.names.map .string)) (hq : RecsAt Qd.cells 3 w P vq m.qids) :
    Calls Tryz.prog 38 #[.agg (m.cells vn vq).toArray, .string (fname .count)] w fun e w' => e = .returned (.tuple #[.string (wfB m .count).1, .bool (wfB m .count).2]) ∧ Mod (fun _ => False) w w' := by
  obtain ⟨W, hW⟩ : ∃ W, w.alloc (.cells (m.cells vn vq).toArray 33) = W := ⟨_, rfl⟩
  have hb : W.heap[w.heap.size]? = some (msgO m vn vq) := by subst hW; exact new_at _ _
  have m0 : Mod (fun _ => False) w W := by subst hW; exact (Mod.refl _ w).alloc _
  have HN : Hid (SlAt W P vn (m.names.map .string)) := hn.mod m0 fun _ _ _ x => x
  have HQ : Hid (RecsAt Qd.cells 3 W P vq m.qids) := hq.mod m0 fun _ _ _ x => x
  have HB : Hid (W.heap[w.heap.size]? = some (msgO m vn vq)) := hb
  have M0 : Hid (Mod (fun _ => False) w W) := m0
  have c : W.cell? ⟨w.heap.size, 21, none⟩ = some (.int .u32 m.count) := (cell_of hb 21).trans rfl
  have hx := hk.count
  have hw : IntKind.u64.wrap (m.count : Int) = m.count := by rw [IntKind.wrap_u64]; omega
  have hT := fun U => n23m_any m.count 4 U (by omega) (by decide) (by decide)
  clear hb m0 hn hq
  go_enter Tryz.func38, Tryz.ntmps38
  unfold fname
  go_wp2_with fail
  refine (hT _).mono ?_
  rintro e w1 ⟨rfl, m1⟩
  clear hT
  go_wp2
  go_ret2
  exact ⟨rfl, M0.out.trans m1⟩
set_option maxHeartbeats 2000000 in
set_option maxRecDepth 100000 in
theorem more_version (m : Msg) (vn vq : Value) (P : Nat → Prop) (w : World) (hk : m.Ok) (hs : m.Small) (hn : SlAt w P vn (m.names.map .string)) (hq : RecsAt Qd.cells 3 w P vq m.qids) :
    Calls Tryz.prog 82 #[.agg (m.cells vn vq).toArray, .string (fname .version)] w fun e w' => e = .returned (.tuple #[.string (wfB m .version).1, .bool (wfB m .version).2]) ∧ Mod (fun _ => False) w w' := by
  obtain ⟨W, hW⟩ : ∃ W, w.alloc (.cells (m.cells vn vq).toArray 33) = W := ⟨_, rfl⟩
  have hb : W.heap[w.heap.size]? = some (msgO m vn vq) := by subst hW; exact new_at _ _
  have m0 : Mod (fun _ => False) w W := by subst hW; exact (Mod.refl _ w).alloc _
  have HN : Hid (SlAt W P vn (m.names.map .string)) := hn.mod m0 fun _ _ _ x => x
  have HQ : Hid (RecsAt Qd.cells 3 W P vq m.qids) := hq.mod m0 fun _ _ _ x => x
  have HB : Hid (W.heap[w.heap.size]? = some (msgO m vn vq)) := hb
  have M0 : Hid (Mod (fun _ => False) w W) := m0
  have c : W.cell? ⟨w.heap.size, 3, none⟩ = some (.string m.version) := (cell_of hb 3).trans rfl
  have hT := fun U => rtext_any m.version U hs.version
  clear hb m0 hn hq
  go_enter Tryz.func82, Tryz.ntmps82
  unfold fname
  go_wp2_with fail
  refine (hT _).mono ?_
  rintro e w1 ⟨rfl, m1⟩
  clear hT
  go_wp2
  go_ret2
  exact ⟨rfl, M0.out.trans m1⟩
set_option maxHeartbeats 2000000 in
set_option maxRecDepth 100000 in
theorem write_version (m : Msg) (vn vq : Value) (P : Nat → Prop) (w : World) (hk : m.Ok) (hs : m.Small) (hn : SlAt w P vn (m.names.map .string)) (hq : RecsAt Qd.cells 3 w P vq m.qids) :
    Calls Tryz.prog 38 #[.agg (m.cells vn vq).toArray, .string (fname .version)] w fun e w' => e = .returned (.tuple #[.string (wfB m .version).1, .bool (wfB m .version).2]) ∧ Mod (fun _ => False) w w' := by
  obtain ⟨W, hW⟩ : ∃ W, w.alloc (.cells (m.cells vn vq).toArray 33) = W := ⟨_, rfl⟩
  have hb : W.heap[w.heap.size]? = some (msgO m vn vq) := by subst hW; exact new_at _ _
  have m0 : Mod (fun _ => False) w W := by subst hW; exact (Mod.refl _ w).alloc _
  have HN : Hid (SlAt W P vn (m.names.map .string)) := hn.mod m0 fun _ _ _ x => x
  have HQ : Hid (RecsAt Qd.cells 3 W P vq m.qids) := hq.mod m0 fun _ _ _ x => x
  have HB : Hid (W.heap[w.heap.size]? = some (msgO m vn vq)) := hb
  have M0 : Hid (Mod (fun _ => False) w W) := m0
  have hT := more_version m vn vq P W hk hs HN.out HQ.out
  have hsz := msg_len36 m vn vq
  have hrg : W.rangeAt w.heap.size 0 (m.cells vn vq) := fun j u hu => by rw [Nat.zero_add, cell_of hb, List.getElem?_toArray]; exact hu
  clear hb m0 hn hq
  go_enter Tryz.func38, Tryz.ntmps38
  simp only [fname] at hT ⊢
  go_upto_region 26 with (fail)
  refine wp_region_lit ?_
  refine wpList_load_mid rfl 33 (.tmp 2) rfl w.heap.size 0 rfl (m.cells vn vq) _ hrg Tryz.underlying33 rfl (by kernel_rfl) ?_
  refine wpList_plain rfl fun K hK => ?_
  go_simp
  refine hK _ _ ?_
  clear hK K
  refine wpList_plain rfl fun K hK => ?_
  go_simp
  refine hT.mono ?_
  rintro e w1 ⟨rfl, m1⟩
  refine hK _ _ ?_
  clear hK K hT hrg
  go_wp2
  go_ret2
  exact ⟨rfl, M0.out.trans m1⟩
set_option maxHeartbeats 2000000 in
set_option maxRecDepth 100000 in
theorem more_uname (m : Msg) (vn vq : Value) (P : Nat → Prop) (w : World) (hk : m.Ok) (hs : m.Small) (hn : SlAt w P vn (m.names.map .string)) (hq : RecsAt Qd.cells 3 w P vq m.qids) :
    Calls Tryz.prog 82 #[.agg (m.cells vn vq).toArray, .string (fname .uname)] w fun e w' => e = .returned (.tuple #[.string (wfB m .uname).1, .bool (wfB m .uname).2]) ∧ Mod (fun _ => False) w w' := by
  obtain ⟨W, hW⟩ : ∃ W, w.alloc (.cells (m.cells vn vq).toArray 33) = W := ⟨_, rfl⟩
  have hb : W.heap[w.heap.size]? = some (msgO m vn vq) := by subst hW; exact new_at _ _
  have m0 : Mod (fun _ => False) w W := by subst hW; exact (Mod.refl _ w).alloc _
  have HN : Hid (SlAt W P vn (m.names.map .string)) := hn.mod m0 fun _ _ _ x => x
  have HQ : Hid (RecsAt Qd.cells 3 W P vq m.qids) := hq.mod m0 fun _ _ _ x => x
  have HB : Hid (W.heap[w.heap.size]? = some (msgO m vn vq)) := hb
  have M0 : Hid (Mod (fun _ => False) w W) := m0
  have c : W.cell? ⟨w.heap.size, 8, none⟩ = some (.string m.uname) := (cell_of hb 8).trans rfl
  have hT := fun U => rtext_any m.uname U hs.uname
  clear hb m0 hn hq
  go_enter Tryz.func82, Tryz.ntmps82
  unfold fname
  go_wp2_with fail
  refine (hT _).mono ?_
  rintro e w1 ⟨rfl, m1⟩
  clear hT
  go_wp2
  go_ret2
  exact ⟨rfl, M0.out.trans m1⟩
set_option maxHeartbeats 2000000 in
set_option maxRecDepth 100000 in
theorem write_uname (m : Msg) (vn vq : Value) (P : Nat → Prop) (w : World) (hk : m.Ok) (hs : m.Small) (hn : SlAt w P vn (m.names.map .string)) (hq : RecsAt Qd.cells 3 w P vq m.qids) :
    Calls Tryz.prog 38 #[.agg (m.cells vn vq).toArray, .string (fname .uname)] w fun e w' => e = .returned (.tuple #[.string (wfB m .uname).1, .bool (wfB m .uname).2]) ∧ Mod (fun _ => False) w w' := by
  obtain ⟨W, hW⟩ : ∃ W, w.alloc (.cells (m.cells vn vq).toArray 33) = W := ⟨_, rfl⟩
  have hb : W.heap[w.heap.size]? = some (msgO m vn vq) := by subst hW; exact new_at _ _
  have m0 : Mod (fun _ => False) w W := by subst hW; exact (Mod.refl _ w).alloc _
  have HN : Hid (SlAt W P vn (m.names.map .string)) := hn.mod m0 fun _ _ _ x => x
  have HQ : Hid (RecsAt Qd.cells 3 W P vq m.qids) := hq.mod m0 fun _ _ _ x => x
  have HB : Hid (W.heap[w.heap.size]? = some (msgO m vn vq)) := hb
  have M0 : Hid (Mod (fun _ => False) w W) := m0
  have hT := more_uname m vn vq P W hk hs HN.out HQ.out
  have hsz := msg_len36 m vn vq
  have hrg : W.rangeAt w.heap.size 0 (m.cells vn vq) := fun j u hu => by rw [Nat.zero_add, cell_of hb, List.getElem?_toArray]; exact hu
  clear hb m0 hn hq
  go_enter Tryz.func38, Tryz.ntmps38
  simp only [fname] at hT ⊢
  go_upto_region 26 with (fail)
  refine wp_region_lit ?_
  refine wpList_load_mid rfl 33 (.tmp 2) rfl w.heap.size 0 rfl (m.cells vn vq) _ hrg Tryz.underlying33 rfl (by kernel_rfl) ?_
  refine wpList_plain rfl fun K hK => ?_
  go_simp
  refine hK _ _ ?_
  clear hK K
  refine wpList_plain rfl fun K hK => ?_
  go_simp
  refine hT.mono ?_
  rintro e w1 ⟨rfl, m1⟩
  refine hK _ _ ?_
  clear hK K hT hrg
  go_wp2
  go_ret2
  exact ⟨rfl, M0.out.trans m1⟩
set_option maxHeartbeats 2000000 in
set_option maxRecDepth 100000 in
theorem more_aname (m : Msg) (vn vq : Value) (P : Nat → Prop) (w : World) (hk : m.Ok) (hs : m.Small) (hn : SlAt w P vn (m.names.map .string)) (hq : RecsAt Qd.cells 3 w P vq m.qids) :
    Calls Tryz.prog 82 #[.agg (m.cells vn vq).toArray, .string (fname .aname)] w fun e w' => e = .returned (.tuple #[.string (wfB m .aname).1, .bool (wfB m .aname).2]) ∧ Mod (fun _ => False) w w' := by
  obtain ⟨W, hW⟩ : ∃ W, w.alloc (.cells (m.cells vn vq).toArray 33) = W := ⟨_, rfl⟩
  have hb : W.heap[w.heap.size]? = some (msgO m vn vq) := by subst hW; exact new_at _ _
  have m0 : Mod (fun _ => False) w W := by subst hW; exact (Mod.refl _ w).alloc _
  have HN : Hid (SlAt W P vn (m.names.map .string)) := hn.mod m0 fun _ _ _ x => x
  have HQ : Hid (RecsAt Qd.cells 3 W P vq m.qids) := hq.mod m0 fun _ _ _ x => x
  have HB : Hid (W.heap[w.heap.size]? = some (msgO m vn vq)) := hb
  have M0 : Hid (Mod (fun _ => False) w W) := m0
  have c : W.cell? ⟨w.heap.size, 9, none⟩ = some (.string m.aname) := (cell_of hb 9).trans rfl
  have hT := fun U => rtext_any m.aname U hs.aname
  clear hb m0 hn hq
  go_enter Tryz.func82, Tryz.ntmps82
  unfold fname
  go_wp2_with fail
  refine (hT _).mono ?_
  rintro e w1 ⟨rfl, m1⟩
  clear hT
  go_wp2
  go_ret2
  exact ⟨rfl, M0.out.trans m1⟩
set_option maxHeartbeats 2000000 in
set_option maxRecDepth 100000 in
theorem write_aname (m : Msg) (vn vq : Value) (P : Nat → Prop) (w : World) (hk : m.Ok) (hs : m.Small) (hn : SlAt w P vn (m.names.map .string)) (hq : RecsAt Qd.cells 3 w P vq m.qids) :
    Calls Tryz.prog 38 #[.agg (m.cells vn vq).toArray, .string (fname .aname)] w fun e w' => e = .returned (.tuple #[.string (wfB m .aname).1, .bool (wfB m .aname).2]) ∧ Mod (fun _ => False) w w' := by
  obtain ⟨W, hW⟩ : ∃ W, w.alloc (.cells (m.cells vn vq).toArray 33) = W := ⟨_, rfl⟩
  have hb : W.heap[w.heap.size]? = some (msgO m vn vq) := by subst hW; exact new_at _ _
  have m0 : Mod (fun _ => False) w W := by subst hW; exact (Mod.refl _ w).alloc _
  have HN : Hid (SlAt W P vn (m.names.map .string)) := hn.mod m0 fun _ _ _ x => x
  have HQ : Hid (RecsAt Qd.cells 3 W P vq m.qids) := hq.mod m0 fun _ _ _ x => x
  have HB : Hid (W.heap[w.heap.size]? = some (msgO m vn vq)) := hb
  have M0 : Hid (Mod (fun _ => False) w W) := m0
  have hT := more_aname m vn vq P W hk hs HN.out HQ.out
  have hsz := msg_len36 m vn vq
  have hrg : W.rangeAt w.heap.size 0 (m.cells vn vq) := fun j u hu => by rw [Nat.zero_add, cell_of hb, List.getElem?_toArray]; exact hu
  clear hb m0 hn hq
  go_enter Tryz.func38, Tryz.ntmps38
  simp only [fname] at hT ⊢
  go_upto_region 26 with (fail)
  refine wp_region_lit ?_
  refine wpList_load_mid rfl 33 (.tmp 2) rfl w.heap.size 0 rfl (m.cells vn vq) _ hrg Tryz.underlying33 rfl (by kernel_rfl) ?_
  refine wpList_plain rfl fun K hK => ?_
  go_simp
  refine hK _ _ ?_
  clear hK K
  refine wpList_plain rfl fun K hK => ?_
  go_simp
  refine hT.mono ?_
  rintro e w1 ⟨rfl, m1⟩
  refine hK _ _ ?_
  clear hK K hT hrg
  go_wp2
  go_ret2
  exact ⟨rfl, M0.out.trans m1⟩
set_option maxHeartbeats 2000000 in
set_option maxRecDepth 100000 in
theorem more_ename (m : Msg) (vn vq : Value) (P : Nat → Prop) (w : World) (hk : m.Ok) (hs : m.Small) (hn : SlAt w P vn (m.names.map .string)) (hq : RecsAt Qd.cells 3 w P vq m.qids) :
    Calls Tryz.prog 82 #[.agg (m.cells vn vq).toArray, .string (fname .ename)] w fun e w' => e = .returned (.tuple #[.string (wfB m .ename).1, .bool (wfB m .ename).2]) ∧ Mod (fun _ => False) w w' := by
  obtain ⟨W, hW⟩ : ∃ W, w.alloc (.cells (m.cells vn vq).toArray 33) = W := ⟨_, rfl⟩
  have hb : W.heap[w.heap.size]? = some (msgO m vn vq) := by subst hW; exact new_at _ _
  have m0 : Mod (fun _ => False) w W := by subst hW; exact (Mod.refl _ w).alloc _
  have HN : Hid (SlAt W P vn (m.names.map .string)) := hn.mod m0 fun _ _ _ x => x
  have HQ : Hid (RecsAt Qd.cells 3 W P vq m.qids) := hq.mod m0 fun _ _ _ x => x
  have HB : Hid (W.heap[w.heap.size]? = some (msgO m vn vq)) := hb
  have M0 : Hid (Mod (fun _ => False) w W) := m0
  have c : W.cell? ⟨w.heap.size, 10, none⟩ = some (.string m.ename) := (cell_of hb 10).trans rfl
  have hT := fun U => rtext_any m.ename U hs.ename
  clear hb m0 hn hq
  go_enter Tryz.func82, Tryz.ntmps82
  unfold fname
  go_wp2_with fail
  refine (hT _).mono ?_
  rintro e w1 ⟨rfl, m1⟩
  clear hT
  go_wp2
  go_ret2
  exact ⟨rfl, M0.out.trans m1⟩
set_option maxHeartbeats 2000000 in
set_option maxRecDepth 100000 in
theorem write_ename (m : Msg) (vn vq : Value) (P : Nat → Prop) (w : World) (hk : m.Ok) (hs : m.Small) (hn : SlAt w P vn (m.names.map .string)) (hq : RecsAt Qd.cells 3 w P vq m.qids) :
    Calls Tryz.prog 38 #[.agg (m.cells vn vq).toArray, .string (fname .ename)] w fun e w' => e = .returned (.tuple #[.string (wfB m .ename).1, .bool (wfB m .ename).2]) ∧ Mod (fun _ => False) w w' := by
  obtain ⟨W, hW⟩ : ∃ W, w.alloc (.cells (m.cells vn vq).toArray 33) = W := ⟨_, rfl⟩
  have hb : W.heap[w.heap.size]? = some (msgO m vn vq) := by subst hW; exact new_at _ _
  have m0 : Mod (fun _ => False) w W := by subst hW; exact (Mod.refl _ w).alloc _
  have HN : Hid (SlAt W P vn (m.names.map .string)) := hn.mod m0 fun _ _ _ x => x
  have HQ : Hid (RecsAt Qd.cells 3 W P vq m.qids) := hq.mod m0 fun _ _ _ x => x
  have HB : Hid (W.heap[w.heap.size]? = some (msgO m vn vq)) := hb
  have M0 : Hid (Mod (fun _ => False) w W) := m0
  have hT := more_ename m vn vq P W hk hs HN.out HQ.out
  have hsz := msg_len36 m vn vq
  have hrg : W.rangeAt w.heap.size 0 (m.cells vn vq) := fun j u hu => by rw [Nat.zero_add, cell_of hb, List.getElem?_toArray]; exact hu
  clear hb m0 hn hq
  go_enter Tryz.func38, Tryz.ntmps38
  simp only [fname] at hT ⊢
  go_upto_region 26 with (fail)
  refine wp_region_lit ?_
  refine wpList_load_mid rfl 33 (.tmp 2) rfl w.heap.size 0 rfl (m.cells vn vq) _ hrg Tryz.underlying33 rfl (by kernel_rfl) ?_
  refine wpList_plain rfl fun K hK => ?_
  go_simp
  refine hK _ _ ?_
  clear hK K
  refine wpList_plain rfl fun K hK => ?_
  go_simp
  refine hT.mono ?_
  rintro e w1 ⟨rfl, m1⟩
  refine hK _ _ ?_
  clear hK K hT hrg
  go_wp2
  go_ret2
  exact ⟨rfl, M0.out.trans m1⟩
set_option maxHeartbeats 2000000 in
set_option maxRecDepth 100000 in
theorem more_name (m : Msg) (vn vq : Value) (P : Nat → Prop) (w : World) (hk : m.Ok) (hs : m.Small) (hn : SlAt w P vn (m.names.map .string)) (hq : RecsAt Qd.cells 3 w P vq m.qids) :
    Calls Tryz.prog 82 #[.agg (m.cells vn vq).toArray, .string (fname .name)] w fun e w' => e = .returned (.tuple #[.string (wfB m .name).1, .bool (wfB m .name).2]) ∧ Mod (fun _ => False) w w' := by
  obtain ⟨W, hW⟩ : ∃ W, w.alloc (.cells (m.cells vn vq).toArray 33) = W := ⟨_, rfl⟩
  have hb : W.heap[w.heap.size]? = some (msgO m vn vq) := by subst hW; exact new_at _ _
  have m0 : Mod (fun _ => False) w W := by subst hW; exact (Mod.refl _ w).alloc _
  have HN : Hid (SlAt W P vn (m.names.map .string)) := hn.mod m0 fun _ _ _ x => x
  have HQ : Hid (RecsAt Qd.cells 3 W P vq m.qids) := hq.mod m0 fun _ _ _ x => x
  have HB : Hid (W.heap[w.heap.size]? = some (msgO m vn vq)) := hb
  have M0 : Hid (Mod (fun _ => False) w W) := m0
  have c : W.cell? ⟨w.heap.size, 11, none⟩ = some (.string m.name) := (cell_of hb 11).trans rfl
  have hT := fun U => rtext_any m.name U hs.name
  clear hb m0 hn hq
  go_enter Tryz.func82, Tryz.ntmps82
  unfold fname
  go_wp2_with fail
  refine (hT _).mono ?_
  rintro e w1 ⟨rfl, m1⟩
  clear hT
  go_wp2
  go_ret2
  exact ⟨rfl, M0.out.trans m1⟩
set_option maxHeartbeats 2000000 in
set_option maxRecDepth 100000 in
theorem write_name (m : Msg) (vn vq : Value) (P : Nat → Prop) (w : World) (hk : m.Ok) (hs : m.Small) (hn : SlAt w P vn (m.names.map .string)) (hq : RecsAt Qd.cells 3 w P vq m.qids) :
    Calls Tryz.prog 38 #[.agg (m.cells vn vq).toArray, .string (fname .name)] w fun e w' => e = .returned (.tuple #[.string (wfB m .name).1, .bool (wfB m .name).2]) ∧ Mod (fun _ => False) w w' := by
  obtain ⟨W, hW⟩ : ∃ W, w.alloc (.cells (m.cells vn vq).toArray 33) = W := ⟨_, rfl⟩
  have hb : W.heap[w.heap.size]? = some (msgO m vn vq) := by subst hW; exact new_at _ _
  have m0 : Mod (fun _ => False) w W := by subst hW; exact (Mod.refl _ w).alloc _
  have HN : Hid (SlAt W P vn (m.names.map .string)) := hn.mod m0 fun _ _ _ x => x
  have HQ : Hid (RecsAt Qd.cells 3 W P vq m.qids) := hq.mod m0 fun _ _ _ x => x
  have HB : Hid (W.heap[w.heap.size]? = some (msgO m vn vq)) := hb
  have M0 : Hid (Mod (fun _ => False) w W) := m0
  have hT := more_name m vn vq P W hk hs HN.out HQ.out
  have hsz := msg_len36 m vn vq
  have hrg : W.rangeAt w.heap.size 0 (m.cells vn vq) := fun j u hu => by rw [Nat.zero_add, cell_of hb, List.getElem?_toArray]; exact hu
  clear hb m0 hn hq
  go_enter Tryz.func38, Tryz.ntmps38
  simp only [fname] at hT ⊢
  go_upto_region 26 with (fail)
  refine wp_region_lit ?_
  refine wpList_load_mid rfl 33 (.tmp 2) rfl w.heap.size 0 rfl (m.cells vn vq) _ hrg Tryz.underlying33 rfl (by kernel_rfl) ?_
  refine wpList_plain rfl fun K hK => ?_
  go_simp
  refine hK _ _ ?_
  clear hK K
  refine wpList_plain rfl fun K hK => ?_
  go_simp
  refine hT.mono ?_
  rintro e w1 ⟨rfl, m1⟩
  refine hK _ _ ?_
  clear hK K hT hrg
  go_wp2
  go_ret2
  exact ⟨rfl, M0.out.trans m1⟩
set_option maxHeartbeats 2000000 in
set_option maxRecDepth 100000 in
theorem more_names (m : Msg) (vn vq : Value) (P : Nat → Prop) (w : World) (hk : m.Ok) (hs : m.Small) (hn : SlAt w P vn (m.names.map .string)) (hq : RecsAt Qd.cells 3 w P vq m.qids) :
    Calls Tryz.prog 82 #[.agg (m.cells vn vq).toArray, .string (fname .names)] w fun e w' => e = .returned (.tuple #[.string (wfB m .names).1, .bool (wfB m .names).2]) ∧ Mod (fun _ => False) w w' := by
  obtain ⟨W, hW⟩ : ∃ W, w.alloc (.cells (m.cells vn vq).toArray 33) = W := ⟨_, rfl⟩
  have hb : W.heap[w.heap.size]? = some (msgO m vn vq) := by subst hW; exact new_at _ _
  have m0 : Mod (fun _ => False) w W := by subst hW; exact (Mod.refl _ w).alloc _
  have HN : Hid (SlAt W P vn (m.names.map .string)) := hn.mod m0 fun _ _ _ x => x
  have HQ : Hid (RecsAt Qd.cells 3 W P vq m.qids) := hq.mod m0 fun _ _ _ x => x
  have HB : Hid (W.heap[w.heap.size]? = some (msgO m vn vq)) := hb
  have M0 : Hid (Mod (fun _ => False) w W) := m0
  have hsn := hs.names
  have hnl := hs.nl
  obtain ⟨an, cn, rfl, hcn, hvx⟩ := HN.out.form
  rw [List.length_map] at hb hW hcn ⊢
  have c12 : W.cell? ⟨w.heap.size, 12, none⟩ = some (.slice an m.names.length cn) := (cell_of hb 12).trans rfl
  have hT := fun U => n23m_any m.names.length 2 U (by omega) (by decide) (by decide)
  have hw : IntKind.u64.wrap (m.names.length : Int) = m.names.length := by rw [IntKind.wrap_u64]; omega
  have HV : Hid (wfB m .names = if (m.names.all fun s => decide (s.size ≤ 65535)) = true then (bs (leBytes 2 m.names.length ++ m.names.flatMap txt), decide (m.names.length ≤ 16)) else (ByteArray.empty, false)) := rfl
  have hz0 : (bs (leBytes 2 m.names.length)).size ≤ 2 := by rw [bs_size, leBytes_length]; exact Nat.le_refl _
  clear hb m0 hn hq HN HQ HB
  go_enter Tryz.func82, Tryz.ntmps82
  unfold fname
  go_wp2_with fail
  refine (hT _).mono ?_
  rintro e w1 ⟨rfl, m1⟩
  have c12 := keepR m1 c12
  have M1 := Lib.hid (M0.out.trans m1)
  have MW := Lib.hid m1
  clear hT
  go_wp2
  go_loopw [6, 7, 8, 9] (fun v i _ _ wr => ∃ j : Nat, j ≤ m.names.length ∧ i = .int .i64 j ∧ v = .string (bs (leBytes 2 m.names.length ++ (m.names.take j).flatMap txt)) ∧ Hid ((∀ s ∈ m.names.take j, s.size ≤ 65535) ∧ (bs (leBytes 2 m.names.length ++ (m.names.take j).flatMap txt)).size ≤ 2 + 65537 * j) ∧ Hid (Mod (fun _ => False) w1 wr)) (fun _ i _ _ _ => m.names.length - (intOf i).toNat)
  case atStart => exact ⟨0, Nat.zero_le _, rfl, by simp, ⟨fun s hs => (by simp at hs), by simp; exact hz0⟩, Mod.refl _ _⟩
  case round =>
    obtain ⟨j, hj, rfl, rfl, HJ, MM⟩ := hrel
    have c12 := keepR MM.out c12
    by_cases hjl : j < m.names.length
    · obtain ⟨g, off, hge, hg, hgl, hc⟩ := hvx j _ (strs_get hjl)
      subst hge
      have c0 := keepR (MW.out.trans MM.out) hc
      have t1 : decide ((j : Int) < (m.names.length : Int)) = true := by simp; omega
      have j1 : (0 : Int) ≤ (j : Int) := by omega
      have j2 : (j : Int) < (m.names.length : Int) := by omega
      have hsz := hsn _ (List.getElem_mem hjl)
      have hmem := List.getElem_mem hjl
      have HS := Lib.hid (show m.names.take (j + 1) = m.names.take j ++ [m.names[j]] from List.take_succ_eq_append_getElem hjl)
      generalize m.names[j] = s at *
      have hT := fun U => rtext_any s U hsz
      have HJ1 := HJ.out.1
      have hJ2 := HJ.out.2
      have HE : Hid (bs (leBytes 2 m.names.length ++ (m.names.take (j + 1)).flatMap txt) = bs (leBytes 2 m.names.length ++ (m.names.take j).flatMap txt) ++ bs (txt s)) := by
        show _ = _
        rw [HS.out, List.flatMap_append, ← List.append_assoc, bs_cat]
        simp
      have hts : (bs (txt s)).size = 2 + s.size := by rw [bs_size, txt_length]
      generalize bs (leBytes 2 m.names.length ++ (m.names.take j).flatMap txt) = T at *
      generalize bs (txt s) = X at *
      clear hc
      go_wp2_with fail
      refine (hT _).mono ?_
      rintro e w2 ⟨rfl, m2⟩
      have MM2 : Hid (Mod (fun _ => False) w1 w2) := MM.out.trans m2
      clear hT
      by_cases h6 : s.size ≤ 65535
      · have t2 : decide (s.size ≤ 65535) = true := decide_eq_true h6
        have HJ3 : Hid ((∀ x ∈ m.names.take (j + 1), x.size ≤ 65535) ∧ (T ++ X).size ≤ 2 + 65537 * (j + 1)) := by
          refine ⟨?_, ?_⟩
          · rw [HS.out]
            intro x hx
            rcases List.mem_append.1 hx with h | h
            · exact HJ1 x h
            · rw [List.mem_singleton.1 h]; exact h6
          · rw [ByteArray.size_append, hts]; omega
        go_wp2
        go_roundw
        case rel => exact ⟨j + 1, hjl, by go_num, by rw [HE.out], by rw [HE.out]; exact HJ3.out, MM2.out⟩
        case measure => simp [intOf]; omega
      · have t2 : decide (s.size ≤ 65535) = false := decide_eq_false h6
        have HF : Hid (wfB m .names = (ByteArray.empty, false)) := by
          show _ = _
          rw [HV.out, if_neg]
          intro hall
          exact h6 (of_decide_eq_true (List.all_eq_true.1 hall s hmem))
        go_wp2
        go_ret2
        exact ⟨by rw [HF.out]; rfl, M1.out.trans MM2.out⟩
    · obtain rfl : j = m.names.length := by omega
      have t1 : decide ((m.names.length : Int) < (m.names.length : Int)) = false := by simp
      have HF : Hid (wfB m .names = (bs (leBytes 2 m.names.length ++ m.names.flatMap txt), decide (m.names.length ≤ 16))) := by
        show _ = _
        rw [HV.out, if_pos]
        have h := HJ.out.1
        rw [List.take_length] at h
        exact List.all_eq_true.2 fun s hs => decide_eq_true (h s hs)
      rw [List.take_length]
      clear hvx
      go_wp2_with fail
      go_region_held_law (fun w' => w'.cell? ⟨w.heap.size, 12, none⟩ = some (.slice an m.names.length cn)) (first | assumption) (fail)
      go_wp2
      go_ret2
      exact ⟨by rw [HF.out]; congr 3; simp; omega, (M1.out.trans MM.out).drew⟩
set_option maxHeartbeats 2000000 in
set_option maxRecDepth 100000 in
theorem more_qids (m : Msg) (vn vq : Value) (P : Nat → Prop) (w : World) (hk : m.Ok) (hs : m.Small) (hn : SlAt w P vn (m.names.map .string)) (hq : RecsAt Qd.cells 3 w P vq m.qids) :
    Calls Tryz.prog 82 #[.agg (m.cells vn vq).toArray, .string (fname .qids)] w fun e w' => e = .returned (.tuple #[.string (wfB m .qids).1, .bool (wfB m .qids).2]) ∧ Mod (fun _ => False) w w' := by
  obtain ⟨W, hW⟩ : ∃ W, w.alloc (.cells (m.cells vn vq).toArray 33) = W := ⟨_, rfl⟩
  have hb : W.heap[w.heap.size]? = some (msgO m vn vq) := by subst hW; exact new_at _ _
  have m0 : Mod (fun _ => False) w W := by subst hW; exact (Mod.refl _ w).alloc _
  have HN : Hid (SlAt W P vn (m.names.map .string)) := hn.mod m0 fun _ _ _ x => x
  have HQ : Hid (RecsAt Qd.cells 3 W P vq m.qids) := hq.mod m0 fun _ _ _ x => x
  have HB : Hid (W.heap[w.heap.size]? = some (msgO m vn vq)) := hb
  have M0 : Hid (Mod (fun _ => False) w W) := m0
  have hql := hs.ql
  have hqk := hk.qids
  obtain ⟨aq, cq, rfl, hcq, hvx⟩ := HQ.out.form
  have c16 : W.cell? ⟨w.heap.size, 16, none⟩ = some (.slice aq m.qids.length cq) := (cell_of hb 16).trans rfl
  have hT := fun U => n23m_any m.qids.length 2 U (by omega) (by decide) (by decide)
  have hw : IntKind.u64.wrap (m.qids.length : Int) = m.qids.length := by rw [IntKind.wrap_u64]; omega
  have HV : Hid (wfB m .qids = (bs (leBytes 2 m.qids.length ++ (m.qids.take 17).flatMap qdB), decide (m.qids.length ≤ 16))) := rfl
  have hz0 : (bs (leBytes 2 m.qids.length)).size ≤ 2 := by rw [bs_size, leBytes_length]; exact Nat.le_refl _
  clear hb m0 hn hq HN HQ HB
  go_enter Tryz.func82, Tryz.ntmps82
  unfold fname
  go_wp2_with fail
  refine (hT _).mono ?_
  rintro e w1 ⟨rfl, m1⟩
  have c16 := keepR m1 c16
  have M1 := Lib.hid (M0.out.trans m1)
  have MW := Lib.hid m1
  clear hT
  go_wp2
  go_loopw [10, 11] (fun v i wr => ∃ j : Nat, (j ≤ m.qids.length ∧ j ≤ 17) ∧ i = .int .i64 j ∧ v = .string (bs (leBytes 2 m.qids.length ++ (m.qids.take j).flatMap qdB)) ∧ Hid ((bs (leBytes 2 m.qids.length ++ (m.qids.take j).flatMap qdB)).size ≤ 2 + 13 * j) ∧ Hid (Mod (fun _ => False) w1 wr)) (fun _ i _ => m.qids.length - (intOf i).toNat)
  case atStart => exact ⟨0, ⟨Nat.zero_le _, by omega⟩, rfl, by simp, by simp; exact hz0, Mod.refl _ _⟩
  case round =>
    obtain ⟨j, ⟨hj, hj17⟩, rfl, rfl, HJ, MM⟩ := hrel
    have c16 := keepR MM.out c16
    by_cases hjl : j < m.qids.length
    · have t1 : decide ((j : Int) < (m.qids.length : Int)) = true := by simp; omega
      by_cases hj6 : j ≤ 16
      · have t2 : decide ((j : Int) ≤ 16) = true := by simp; omega
        obtain ⟨g, off, hge, hg, hgl, hc⟩ := hvx j _ (List.getElem?_eq_getElem hjl)
        subst hge
        have c0 : wr.cell? ⟨g, off + j * 3, none⟩ = some (.int .u8 m.qids[j].t) := keepR (MW.out.trans MM.out) (hc 0 _ rfl)
        have c1 : wr.cell? ⟨g, off + j * 3 + 1, none⟩ = some (.int .u32 m.qids[j].v) := keepR (MW.out.trans MM.out) (hc 1 _ rfl)
        have c2 : wr.cell? ⟨g, off + j * 3 + 2, none⟩ = some (.int .u64 m.qids[j].p) := keepR (MW.out.trans MM.out) (hc 2 _ rfl)
        have j1 : (0 : Int) ≤ (j : Int) := by omega
        have j2 : (j : Int) < (m.qids.length : Int) := by omega
        have hmem := hqk _ (List.getElem_mem hjl)
        have HS := Lib.hid (show m.qids.take (j + 1) = m.qids.take j ++ [m.qids[j]] from List.take_succ_eq_append_getElem hjl)
        generalize m.qids[j] = q at *
        have hT := fun U => rqid_any q.t q.v q.p U hmem.t hmem.v hmem.p
        have hJ2 := HJ.out
        have HE : Hid (bs (leBytes 2 m.qids.length ++ (m.qids.take (j + 1)).flatMap qdB) = bs (leBytes 2 m.qids.length ++ (m.qids.take j).flatMap qdB) ++ bs (qidL q.t q.v q.p)) := by
          show _ = _
          rw [HS.out, List.flatMap_append, ← List.append_assoc, bs_cat]
          simp [qdB]
        have hts : (bs (qidL q.t q.v q.p)).size = 13 := by rw [bs_size]; simp [qidL, leBytes_length]
        generalize bs (leBytes 2 m.qids.length ++ (m.qids.take j).flatMap qdB) = T at *
        generalize bs (qidL q.t q.v q.p) = X at *
        clear hc
        go_wp2_with fail
        refine (hT _).mono ?_
        rintro e w2 ⟨rfl, m2⟩
        have MM2 : Hid (Mod (fun _ => False) w1 w2) := MM.out.trans m2
        clear hT
        have HJ3 : Hid ((T ++ X).size ≤ 2 + 13 * (j + 1)) := by
          show _ ≤ _
          rw [ByteArray.size_append, hts]; omega
        go_wp2
        go_roundw
        case rel => exact ⟨j + 1, ⟨hjl, by omega⟩, by go_num, by rw [HE.out], by rw [HE.out]; exact HJ3.out, MM2.out⟩
        case measure => simp [intOf]; omega
      · have t2 : decide ((j : Int) ≤ 16) = false := by simp; omega
        obtain rfl : j = 17 := by omega
        have t3 : decide ((m.qids.length : Int) ≤ 16) = false := by simp; omega
        have t4 : decide (m.qids.length ≤ 16) = false := by simp; omega
        clear hvx
        go_wp2_with fail
        go_region_held_law (fun w' => w'.cell? ⟨w.heap.size, 16, none⟩ = some (.slice aq m.qids.length cq)) (first | assumption) (fail)
        go_wp2
        go_ret2
        exact ⟨by rw [HV.out, t4]; rfl, (M1.out.trans MM.out).drew⟩
    · obtain rfl : j = m.qids.length := by omega
      have t1 : decide ((m.qids.length : Int) < (m.qids.length : Int)) = false := by simp
      have HF : Hid (m.qids.take 17 = m.qids.take m.qids.length) := by
        show _ = _
        rw [List.take_length, List.take_of_length_le hj17]
      clear hvx
      go_wp2_with fail
      go_region_held_law (fun w' => w'.cell? ⟨w.heap.size, 16, none⟩ = some (.slice aq m.qids.length cq)) (first | assumption) (fail)
      go_wp2
      go_ret2
      exact ⟨by rw [HV.out, HF.out]; congr 3; simp; omega, (M1.out.trans MM.out).drew⟩
set_option maxHeartbeats 2000000 in
set_option maxRecDepth 100000 in
theorem write_qid (m : Msg) (vn vq : Value) (P : Nat → Prop) (w : World) (hk : m.Ok) (hs : m.Small) (hn : SlAt w P vn (m.names.map .string)) (hq : RecsAt Qd.cells 3 w P vq m.qids) :
    Calls Tryz.prog 38 #[.agg (m.cells vn vq).toArray, .string (fname .qid)] w fun e w' => e = .returned (.tuple #[.string (wfB m .qid).1, .bool (wfB m .qid).2]) ∧ Mod (fun _ => False) w w' := by
  obtain ⟨W, hW⟩ : ∃ W, w.alloc (.cells (m.cells vn vq).toArray 33) = W := ⟨_, rfl⟩
  have hb : W.heap[w.heap.size]? = some (msgO m vn vq) := by subst hW; exact new_at _ _
  have m0 : Mod (fun _ => False) w W := by subst hW; exact (Mod.refl _ w).alloc _
  have HN : Hid (SlAt W P vn (m.names.map .string)) := hn.mod m0 fun _ _ _ x => x
  have HQ : Hid (RecsAt Qd.cells 3 W P vq m.qids) := hq.mod m0 fun _ _ _ x => x
  have HB : Hid (W.heap[w.heap.size]? = some (msgO m vn vq)) := hb
  have M0 : Hid (Mod (fun _ => False) w W) := m0
  have c13 : W.cell? ⟨w.heap.size, 13, none⟩ = some (.int .u8 m.qid.t) := (cell_of hb 13).trans rfl
  have c14 : W.cell? ⟨w.heap.size, 14, none⟩ = some (.int .u32 m.qid.v) := (cell_of hb 14).trans rfl
  have c15 : W.cell? ⟨w.heap.size, 15, none⟩ = some (.int .u64 m.qid.p) := (cell_of hb 15).trans rfl
  have hT := fun U => rqid_any m.qid.t m.qid.v m.qid.p U hk.qid.t hk.qid.v hk.qid.p
  clear hb m0 hn hq
  go_enter Tryz.func38, Tryz.ntmps38
  unfold fname
  go_wp2_with fail
  refine (hT _).mono ?_
  rintro e w1 ⟨rfl, m1⟩
  clear hT
  go_wp2
  go_ret2
  exact ⟨rfl, M0.out.trans m1⟩
set_option maxHeartbeats 2000000 in
set_option maxRecDepth 100000 in
theorem write_data (m : Msg) (vn vq : Value) (P : Nat → Prop) (w : World) (hk : m.Ok) (hs : m.Small) (hn : SlAt w P vn (m.names.map .string)) (hq : RecsAt Qd.cells 3 w P vq m.qids) :
    Calls Tryz.prog 38 #[.agg (m.cells vn vq).toArray, .string (fname .data)] w fun e w' => e = .returned (.tuple #[.string (wfB m .data).1, .bool (wfB m .data).2]) ∧ Mod (fun _ => False) w w' := by
  obtain ⟨W, hW⟩ : ∃ W, w.alloc (.cells (m.cells vn vq).toArray 33) = W := ⟨_, rfl⟩
  have hb : W.heap[w.heap.size]? = some (msgO m vn vq) := by subst hW; exact new_at _ _
  have m0 : Mod (fun _ => False) w W := by subst hW; exact (Mod.refl _ w).alloc _
  have HN : Hid (SlAt W P vn (m.names.map .string)) := hn.mod m0 fun _ _ _ x => x
  have HQ : Hid (RecsAt Qd.cells 3 W P vq m.qids) := hq.mod m0 fun _ _ _ x => x
  have HB : Hid (W.heap[w.heap.size]? = some (msgO m vn vq)) := hb
  have M0 : Hid (Mod (fun _ => False) w W) := m0
  have c0 : W.drew.cell? ⟨w.heap.size, 22, none⟩ = some (.string m.data) := (cell_of (w := W.drew) hb 22).trans rfl
  have hd := hs.data
  have hw : IntKind.u64.wrap (m.data.size : Int) = m.data.size := by rw [IntKind.wrap_u64]; omega
  have Mc : Hid (Mod (fun _ => False) w W.drew) := m0.drew
  have hsz : (bs (leBytes 4 m.data.size)).size = 4 := by rw [bs_size, leBytes_length]
  have HV : Hid (wfB m .data = (bs (leBytes 4 m.data.size) ++ m.data, true)) := by
    show (bs (leBytes 4 m.data.size ++ m.data.data.toList), true) = _
    rw [bs_cat, bs_of]
  have hT : ∀ U, Calls Tryz.prog 46 #[.int .u64 m.data.size, .int .i64 4] U fun e w' => e = .returned (.string (bs (leBytes 4 m.data.size))) ∧ Mod (fun _ => False) U w' := fun U => n23m_any m.data.size 4 U (by omega) (by decide) (by decide)
  have hSk : ∀ (U V : World), (U.cell? ⟨w.heap.size, 22, none⟩ = some (.string m.data)) → Mod (fun _ => False) U V → (V.cell? ⟨w.heap.size, 22, none⟩ = some (.string m.data)) := fun U V h hm => keepR hm h
  clear hb m0 hn hq HB
  rw [HV.out]
  generalize hX : bs (leBytes 4 m.data.size) = X at *
  clear hX HV
  go_enter Tryz.func38, Tryz.ntmps38
  unfold fname
  go_wp2_with fail
  refine wp_onlyN ?_
  go_region_held_law (fun w' => w'.cell? ⟨w.heap.size, 22, none⟩ = some (.string m.data)) (first | assumption | exact hSk _ _ (by assumption) m4) (first
    | (go_at_call 46; refine (hT _).mono ?_; rintro e w4 ⟨rfl, m4⟩; have Mc := Lib.hid (Mc.out.trans m4)))
  all_goals refine onlyN_out ?_
  go_wp2
  go_ret2
  exact ⟨rfl, Mc.out⟩
set_option maxHeartbeats 2000000 in
set_option maxRecDepth 100000 in
theorem more_stat (m : Msg) (vn vq : Value) (P : Nat → Prop) (w : World) (hk : m.Ok) (hs : m.Small) (hn : SlAt w P vn (m.names.map .string)) (hq : RecsAt Qd.cells 3 w P vq m.qids) :
    Calls Tryz.prog 82 #[.agg (m.cells vn vq).toArray, .string (fname .stat)] w fun e w' => e = .returned (.tuple #[.string (wfB m .stat).1, .bool (wfB m .stat).2]) ∧ Mod (fun _ => False) w w' := by
  obtain ⟨W, hW⟩ : ∃ W, w.alloc (.cells (m.cells vn vq).toArray 33) = W := ⟨_, rfl⟩
  have hb : W.heap[w.heap.size]? = some (msgO m vn vq) := by subst hW; exact new_at _ _
  have m0 : Mod (fun _ => False) w W := by subst hW; exact (Mod.refl _ w).alloc _
  have HN : Hid (SlAt W P vn (m.names.map .string)) := hn.mod m0 fun _ _ _ x => x
  have HQ : Hid (RecsAt Qd.cells 3 W P vq m.qids) := hq.mod m0 fun _ _ _ x => x
  have HB : Hid (W.heap[w.heap.size]? = some (msgO m vn vq)) := hb
  have M0 : Hid (Mod (fun _ => False) w W) := m0
  have hT := fun U => renc_any m.stat U hk.stat hs.st.1 hs.st.2.1 hs.st.2.2.1 hs.st.2.2.2
  have HV : Hid (wfB m .stat = if (encS m.stat).2 ≠ 0 then (ByteArray.empty, false) else (bs (leBytes 2 (encS m.stat).1.size ++ (encS m.stat).1.data.toList), decide ((encS m.stat).1.size ≤ 65535))) := rfl
  have hz := encS_le m.stat
  generalize encS m.stat = E at *
  obtain ⟨b, er⟩ := E
  simp only at hT HV hz
  unfold St.v St.cells at hT
  have s0 : W.cell? ⟨w.heap.size, 23, none⟩ = some (.int .u16 m.stat.ty) := (cell_of hb 23).trans rfl
  have s1 : W.cell? ⟨w.heap.size, 24, none⟩ = some (.int .u32 m.stat.dev) := (cell_of hb 24).trans rfl
  have s2 : W.cell? ⟨w.heap.size, 25, none⟩ = some (.int .u8 m.stat.qt) := (cell_of hb 25).trans rfl
  have s3 : W.cell? ⟨w.heap.size, 26, none⟩ = some (.int .u32 m.stat.qv) := (cell_of hb 26).trans rfl
  have s4 : W.cell? ⟨w.heap.size, 27, none⟩ = some (.int .u64 m.stat.qp) := (cell_of hb 27).trans rfl
  have s5 : W.cell? ⟨w.heap.size, 28, none⟩ = some (.int .u32 m.stat.mo) := (cell_of hb 28).trans rfl
  have s6 : W.cell? ⟨w.heap.size, 29, none⟩ = some (.int .u32 m.stat.at_) := (cell_of hb 29).trans rfl
  have s7 : W.cell? ⟨w.heap.size, 30, none⟩ = some (.int .u32 m.stat.mt) := (cell_of hb 30).trans rfl
  have s8 : W.cell? ⟨w.heap.size, 31, none⟩ = some (.int .u64 m.stat.len) := (cell_of hb 31).trans rfl
  have s9 : W.cell? ⟨w.heap.size, 32, none⟩ = some (.string m.stat.n) := (cell_of hb 32).trans rfl
  have s10 : W.cell? ⟨w.heap.size, 33, none⟩ = some (.string m.stat.u) := (cell_of hb 33).trans rfl
  have s11 : W.cell? ⟨w.heap.size, 34, none⟩ = some (.string m.stat.g) := (cell_of hb 34).trans rfl
  have s12 : W.cell? ⟨w.heap.size, 35, none⟩ = some (.string m.stat.m) := (cell_of hb 35).trans rfl
  clear hb m0 hn hq
  go_enter Tryz.func82, Tryz.ntmps82
  unfold fname
  go_wp2_with fail
  refine (hT _).mono ?_
  rintro e w1 ⟨rfl, m1⟩
  clear hT s0 s1 s2 s3 s4 s5 s6 s7 s8 s9 s10 s11 s12
  by_cases h1 : er ≠ 0
  · have t1 : (er != 0) = true := by simpa using h1
    have HF : Hid (wfB m .stat = (ByteArray.empty, false)) := HV.out.trans (if_pos h1)
    go_wp2
    go_ret2
    exact ⟨by rw [HF.out]; rfl, M0.out.trans m1⟩
  · have t1 : (er != 0) = false := by simp at h1 ⊢; exact h1
    have HF : Hid (wfB m .stat = (bs (leBytes 2 b.size) ++ b, decide (b.size ≤ 65535))) := by
      show _ = _
      rw [HV.out, if_neg h1, bs_cat, bs_of]
    have hN : ∀ U, Calls Tryz.prog 46 #[.int .u64 b.size, .int .i64 2] U fun e w' => e = .returned (.string (bs (leBytes 2 b.size))) ∧ Mod (fun _ => False) U w' := fun U => n23m_any b.size 2 U (by omega) (by decide) (by decide)
    have hsz : (bs (leBytes 2 b.size)).size = 2 := by rw [bs_size, leBytes_length]
    have hw : IntKind.u64.wrap (b.size : Int) = b.size := by rw [IntKind.wrap_u64]; omega
    clear HV
    go_wp2_with fail
    refine (hN _).mono ?_
    rintro e w2 ⟨rfl, m2⟩
    clear hN
    generalize bs (leBytes 2 b.size) = X at *
    go_wp2
    go_ret2
    exact ⟨by rw [HF.out]; congr 3; simp; omega, (M0.out.trans m1).trans m2⟩
set_option maxHeartbeats 2000000 in
set_option maxRecDepth 100000 in
theorem write_names (m : Msg) (vn vq : Value) (P : Nat → Prop) (w : World) (hk : m.Ok) (hs : m.Small) (hn : SlAt w P vn (m.names.map .string)) (hq : RecsAt Qd.cells 3 w P vq m.qids) :
    Calls Tryz.prog 38 #[.agg (m.cells vn vq).toArray, .string (fname .names)] w fun e w' => e = .returned (.tuple #[.string (wfB m .names).1, .bool (wfB m .names).2]) ∧ Mod (fun _ => False) w w' := by
  obtain ⟨W, hW⟩ : ∃ W, w.alloc (.cells (m.cells vn vq).toArray 33) = W := ⟨_, rfl⟩
  have hb : W.heap[w.heap.size]? = some (msgO m vn vq) := by subst hW; exact new_at _ _
  have m0 : Mod (fun _ => False) w W := by subst hW; exact (Mod.refl _ w).alloc _
  have HN : Hid (SlAt W P vn (m.names.map .string)) := hn.mod m0 fun _ _ _ x => x
  have HQ : Hid (RecsAt Qd.cells 3 W P vq m.qids) := hq.mod m0 fun _ _ _ x => x
  have HB : Hid (W.heap[w.heap.size]? = some (msgO m vn vq)) := hb
  have M0 : Hid (Mod (fun _ => False) w W) := m0
  have hT := more_names m vn vq P W hk hs HN.out HQ.out
  have hsz := msg_len36 m vn vq
  have hrg : W.rangeAt w.heap.size 0 (m.cells vn vq) := fun j u hu => by rw [Nat.zero_add, cell_of hb, List.getElem?_toArray]; exact hu
  clear hb m0 hn hq
  go_enter Tryz.func38, Tryz.ntmps38
  simp only [fname] at hT ⊢
  go_upto_region 26 with (fail)
  refine wp_region_lit ?_
  refine wpList_load_mid rfl 33 (.tmp 2) rfl w.heap.size 0 rfl (m.cells vn vq) _ hrg Tryz.underlying33 rfl (by kernel_rfl) ?_
  refine wpList_plain rfl fun K hK => ?_
  go_simp
  refine hK _ _ ?_
  clear hK K
  refine wpList_plain rfl fun K hK => ?_
  go_simp
  refine hT.mono ?_
  rintro e w1 ⟨rfl, m1⟩
  refine hK _ _ ?_
  clear hK K hT hrg
  go_wp2
  go_ret2
  exact ⟨rfl, M0.out.trans m1⟩
set_option maxHeartbeats 2000000 in
set_option maxRecDepth 100000 in
theorem write_qids (m : Msg) (vn vq : Value) (P : Nat → Prop) (w : World) (hk : m.Ok) (hs : m.Small) (hn : SlAt w P vn (m.names.map .string)) (hq : RecsAt Qd.cells 3 w P vq m.qids) :
    Calls Tryz.prog 38 #[.agg (m.cells vn vq).toArray, .string (fname .qids)] w fun e w' => e = .returned (.tuple #[.string (wfB m .qids).1, .bool (wfB m .qids).2]) ∧ Mod (fun _ => False) w w' := by
  obtain ⟨W, hW⟩ : ∃ W, w.alloc (.cells (m.cells vn vq).toArray 33) = W := ⟨_, rfl⟩
  have hb : W.heap[w.heap.size]? = some (msgO m vn vq) := by subst hW; exact new_at _ _
  have m0 : Mod (fun _ => False) w W := by subst hW; exact (Mod.refl _ w).alloc _
  have HN : Hid (SlAt W P vn (m.names.map .string)) := hn.mod m0 fun _ _ _ x => x
  have HQ : Hid (RecsAt Qd.cells 3 W P vq m.qids) := hq.mod m0 fun _ _ _ x => x
  have HB : Hid (W.heap[w.heap.size]? = some (msgO m vn vq)) := hb
  have M0 : Hid (Mod (fun _ => False) w W) := m0
  have hT := more_qids m vn vq P W hk hs HN.out HQ.out
  have hsz := msg_len36 m vn vq
  have hrg : W.rangeAt w.heap.size 0 (m.cells vn vq) := fun j u hu => by rw [Nat.zero_add, cell_of hb, List.getElem?_toArray]; exact hu
  clear hb m0 hn hq
  go_enter Tryz.func38, Tryz.ntmps38
  simp only [fname] at hT ⊢
  go_upto_region 26 with (fail)
  refine wp_region_lit ?_
  refine wpList_load_mid rfl 33 (.tmp 2) rfl w.heap.size 0 rfl (m.cells vn vq) _ hrg Tryz.underlying33 rfl (by kernel_rfl) ?_
  refine wpList_plain rfl fun K hK => ?_
  go_simp
  refine hK _ _ ?_
  clear hK K
  refine wpList_plain rfl fun K hK => ?_
  go_simp
  refine hT.mono ?_
  rintro e w1 ⟨rfl, m1⟩
  refine hK _ _ ?_
  clear hK K hT hrg
  go_wp2
  go_ret2
  exact ⟨rfl, M0.out.trans m1⟩
set_option maxHeartbeats 2000000 in
set_option maxRecDepth 100000 in
theorem write_stat (m : Msg) (vn vq : Value) (P : Nat → Prop) (w : World) (hk : m.Ok) (hs : m.Small) (hn : SlAt w P vn (m.names.map .string)) (hq : RecsAt Qd.cells 3 w P vq m.qids) :
    Calls Tryz.prog 38 #[.agg (m.cells vn vq).toArray, .string (fname .stat)] w fun e w' => e = .returned (.tuple #[.string (wfB m .stat).1, .bool (wfB m .stat).2]) ∧ Mod (fun _ => False) w w' := by
  obtain ⟨W, hW⟩ : ∃ W, w.alloc (.cells (m.cells vn vq).toArray 33) = W := ⟨_, rfl⟩
  have hb : W.heap[w.heap.size]? = some (msgO m vn vq) := by subst hW; exact new_at _ _
  have m0 : Mod (fun _ => False) w W := by subst hW; exact (Mod.refl _ w).alloc _
  have HN : Hid (SlAt W P vn (m.names.map .string)) := hn.mod m0 fun _ _ _ x => x
  have HQ : Hid (RecsAt Qd.cells 3 W P vq m.qids) := hq.mod m0 fun _ _ _ x => x
  have HB : Hid (W.heap[w.heap.size]? = some (msgO m vn vq)) := hb
  have M0 : Hid (Mod (fun _ => False) w W) := m0
  have hT := more_stat m vn vq P W hk hs HN.out HQ.out
  have hsz := msg_len36 m vn vq
  have hrg : W.rangeAt w.heap.size 0 (m.cells vn vq) := fun j u hu => by rw [Nat.zero_add, cell_of hb, List.getElem?_toArray]; exact hu
  clear hb m0 hn hq
  go_enter Tryz.func38, Tryz.ntmps38
  simp only [fname] at hT ⊢
  go_upto_region 26 with (fail)
  refine wp_region_lit ?_
  refine wpList_load_mid rfl 33 (.tmp 2) rfl w.heap.size 0 rfl (m.cells vn vq) _ hrg Tryz.underlying33 rfl (by kernel_rfl) ?_
  refine wpList_plain rfl fun K hK => ?_
  go_simp
  refine hK _ _ ?_
  clear hK K
  refine wpList_plain rfl fun K hK => ?_
  go_simp
  refine hT.mono ?_
  rintro e w1 ⟨rfl, m1⟩
  refine hK _ _ ?_
  clear hK K hT hrg
  go_wp2
  go_ret2
  exact ⟨rfl, M0.out.trans m1⟩
theorem rwr_any (f : Fld) (m : Msg) (vn vq : Value) (P : Nat → Prop) (w : World) (hk : m.Ok) (hs : m.Small) (hn : SlAt w P vn (m.names.map .string)) (hq : RecsAt Qd.cells 3 w P vq m.qids) :
    Calls Tryz.prog 38 #[.agg (m.cells vn vq).toArray, .string (fname f)] w fun e w' => e = .returned (.tuple #[.string (wfB m f).1, .bool (wfB m f).2]) ∧ Mod (fun _ => False) w w' := by
  cases f
  · exact write_msize m vn vq P w hk hs hn hq
  · exact write_version m vn vq P w hk hs hn hq
  · exact write_fid m vn vq P w hk hs hn hq
  · exact write_afid m vn vq P w hk hs hn hq
  · exact write_newfid m vn vq P w hk hs hn hq
  · exact write_oldtag m vn vq P w hk hs hn hq
  · exact write_uname m vn vq P w hk hs hn hq
  · exact write_aname m vn vq P w hk hs hn hq
  · exact write_ename m vn vq P w hk hs hn hq
  · exact write_name m vn vq P w hk hs hn hq
  · exact write_names m vn vq P w hk hs hn hq
  · exact write_qid m vn vq P w hk hs hn hq
  · exact write_qids m vn vq P w hk hs hn hq
  · exact write_mode m vn vq P w hk hs hn hq
  · exact write_perm m vn vq P w hk hs hn hq
  · exact write_iounit m vn vq P w hk hs hn hq
  · exact write_offset m vn vq P w hk hs hn hq
  · exact write_count m vn vq P w hk hs hn hq
  · exact write_data m vn vq P w hk hs hn hq
  · exact write_stat m vn vq P w hk hs hn hq
end Go.Proofs.YtklpopmjpgdjnaaGreatDoor
