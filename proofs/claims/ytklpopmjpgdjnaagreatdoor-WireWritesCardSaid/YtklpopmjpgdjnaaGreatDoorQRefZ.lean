/- The document's zero: is a field so? -/
import Derived.Test.YtklpopmjpgdjnaaGreatDoorQRefFl
set_option linter.unusedVariables false
set_option linter.unusedSimpArgs false
namespace Go.Proofs.YtklpopmjpgdjnaaGreatDoor
open Go.RowKit

/-- is a field zero? -/
def zeroF (m : Msg) : Fld → Bool
  | .msize => ((m.msize : Int) == 0)
  | .version => m.version.toList.isEmpty
  | .fid => ((m.fid : Int) == 0)
  | .afid => ((m.afid : Int) == 0)
  | .newfid => ((m.newfid : Int) == 0)
  | .oldtag => ((m.oldtag : Int) == 0)
  | .uname => m.uname.toList.isEmpty
  | .aname => m.aname.toList.isEmpty
  | .ename => m.ename.toList.isEmpty
  | .name => m.name.toList.isEmpty
  | .names => ((m.names.length : Int) == 0)
  | .qid => (decide (m.qid.t = 0) && (decide (m.qid.v = 0) && decide (m.qid.p = 0)))
  | .qids => ((m.qids.length : Int) == 0)
  | .mode => ((m.mode : Int) == 0)
  | .perm => ((m.perm : Int) == 0)
  | .iounit => ((m.iounit : Int) == 0)
  | .offset => ((m.offset : Int) == 0)
  | .count => ((m.count : Int) == 0)
  | .data => m.data.toList.isEmpty
  | .stat => eqS m.stat St.zero
set_option maxHeartbeats 2000000 in
set_option maxRecDepth 100000 in
theorem zero_msize (m : Msg) (vn vq : Value) (P : Nat → Prop) (w : World) (hn : SlAt w P vn (m.names.map .string)) (hq : RecsAt Qd.cells 3 w P vq m.qids) :
    Calls Tryz.prog 86 #[.agg (m.cells vn vq).toArray, .string (fname .msize)] w fun e w' => e = .returned (.bool (zeroF m .msize)) ∧ Mod (fun _ => False) w w' := by
  obtain ⟨W, hW⟩ : ∃ W, w.alloc (.cells (m.cells vn vq).toArray 33) = W := ⟨_, rfl⟩
  have hb : W.heap[w.heap.size]? = some (msgO m vn vq) := by subst hW; exact new_at _ _
  have m0 : Mod (fun _ => False) w W := by subst hW; exact (Mod.refl _ w).alloc _
  have c : W.cell? ⟨w.heap.size, 2, none⟩ = some (.int .u32 m.msize) := (cell_of hb 2).trans rfl
  have M0 := Lib.hid m0
  clear hb m0 hn hq
  go_enter Tryz.func86, Tryz.ntmps86
  unfold fname
  go_wp2
  go_ret
  exact ⟨rfl, M0.out⟩
set_option maxHeartbeats 2000000 in
set_option maxRecDepth 100000 in
theorem zero_version (m : Msg) (vn vq : Value) (P : Nat → Prop) (w : World) (hn : SlAt w P vn (m.names.map .string)) (hq : RecsAt Qd.cells 3 w P vq m.qids) :
    Calls Tryz.prog 86 #[.agg (m.cells vn vq).toArray, .string (fname .version)] w fun e w' => e = .returned (.bool (zeroF m .version)) ∧ Mod (fun _ => False) w w' := by
  obtain ⟨W, hW⟩ : ∃ W, w.alloc (.cells (m.cells vn vq).toArray 33) = W := ⟨_, rfl⟩
  have hb : W.heap[w.heap.size]? = some (msgO m vn vq) := by subst hW; exact new_at _ _
  have m0 : Mod (fun _ => False) w W := by subst hW; exact (Mod.refl _ w).alloc _
  have c : W.cell? ⟨w.heap.size, 3, none⟩ = some (.string m.version) := (cell_of hb 3).trans rfl
  have M0 := Lib.hid m0
  clear hb m0 hn hq
  go_enter Tryz.func86, Tryz.ntmps86
  unfold fname
  go_wp2
  go_ret
  exact ⟨rfl, M0.out⟩
set_option maxHeartbeats 2000000 in
set_option maxRecDepth 100000 in
theorem zero_fid (m : Msg) (vn vq : Value) (P : Nat → Prop) (w : World) (hn : SlAt w P vn (m.names.map .string)) (hq : RecsAt Qd.cells 3 w P vq m.qids) :
    Calls Tryz.prog 86 #[.agg (m.cells vn vq).toArray, .string (fname .fid)] w fun e w' => e = .returned (.bool (zeroF m .fid)) ∧ Mod (fun _ => False) w w' := by
  obtain ⟨W, hW⟩ : ∃ W, w.alloc (.cells (m.cells vn vq).toArray 33) = W := ⟨_, rfl⟩
  have hb : W.heap[w.heap.size]? = some (msgO m vn vq) := by subst hW; exact new_at _ _
  have m0 : Mod (fun _ => False) w W := by subst hW; exact (Mod.refl _ w).alloc _
  have c : W.cell? ⟨w.heap.size, 4, none⟩ = some (.int .u32 m.fid) := (cell_of hb 4).trans rfl
  have M0 := Lib.hid m0
  clear hb m0 hn hq
  go_enter Tryz.func86, Tryz.ntmps86
  unfold fname
  go_wp2
  go_ret
  exact ⟨rfl, M0.out⟩
set_option maxHeartbeats 2000000 in
set_option maxRecDepth 100000 in
theorem zero_afid (m : Msg) (vn vq : Value) (P : Nat → Prop) (w : World) (hn : SlAt w P vn (m.names.map .string)) (hq : RecsAt Qd.cells 3 w P vq m.qids) :
    Calls Tryz.prog 86 #[.agg (m.cells vn vq).toArray, .string (fname .afid)] w fun e w' => e = .returned (.bool (zeroF m .afid)) ∧ Mod (fun _ => False) w w' := by
  obtain ⟨W, hW⟩ : ∃ W, w.alloc (.cells (m.cells vn vq).toArray 33) = W := ⟨_, rfl⟩
  have hb : W.heap[w.heap.size]? = some (msgO m vn vq) := by subst hW; exact new_at _ _
  have m0 : Mod (fun _ => False) w W := by subst hW; exact (Mod.refl _ w).alloc _
  have c : W.cell? ⟨w.heap.size, 5, none⟩ = some (.int .u32 m.afid) := (cell_of hb 5).trans rfl
  have M0 := Lib.hid m0
  clear hb m0 hn hq
  go_enter Tryz.func86, Tryz.ntmps86
  unfold fname
  go_wp2
  go_ret
  exact ⟨rfl, M0.out⟩
set_option maxHeartbeats 2000000 in
set_option maxRecDepth 100000 in
theorem zero_newfid (m : Msg) (vn vq : Value) (P : Nat → Prop) (w : World) (hn : SlAt w P vn (m.names.map .string)) (hq : RecsAt Qd.cells 3 w P vq m.qids) :
    Calls Tryz.prog 86 #[.agg (m.cells vn vq).toArray, .string (fname .newfid)] w fun e w' => e = .returned (.bool (zeroF m .newfid)) ∧ Mod (fun _ => False) w w' := by
  obtain ⟨W, hW⟩ : ∃ W, w.alloc (.cells (m.cells vn vq).toArray 33) = W := ⟨_, rfl⟩
  have hb : W.heap[w.heap.size]? = some (msgO m vn vq) := by subst hW; exact new_at _ _
  have m0 : Mod (fun _ => False) w W := by subst hW; exact (Mod.refl _ w).alloc _
  have c : W.cell? ⟨w.heap.size, 6, none⟩ = some (.int .u32 m.newfid) := (cell_of hb 6).trans rfl
  have M0 := Lib.hid m0
  clear hb m0 hn hq
  go_enter Tryz.func86, Tryz.ntmps86
  unfold fname
  go_wp2
  go_ret
  exact ⟨rfl, M0.out⟩
set_option maxHeartbeats 2000000 in
set_option maxRecDepth 100000 in
theorem zero_oldtag (m : Msg) (vn vq : Value) (P : Nat → Prop) (w : World) (hn : SlAt w P vn (m.names.map .string)) (hq : RecsAt Qd.cells 3 w P vq m.qids) :
    Calls Tryz.prog 86 #[.agg (m.cells vn vq).toArray, .string (fname .oldtag)] w fun e w' => e = .returned (.bool (zeroF m .oldtag)) ∧ Mod (fun _ => False) w w' := by
  obtain ⟨W, hW⟩ : ∃ W, w.alloc (.cells (m.cells vn vq).toArray 33) = W := ⟨_, rfl⟩
  have hb : W.heap[w.heap.size]? = some (msgO m vn vq) := by subst hW; exact new_at _ _
  have m0 : Mod (fun _ => False) w W := by subst hW; exact (Mod.refl _ w).alloc _
  have c : W.cell? ⟨w.heap.size, 7, none⟩ = some (.int .u16 m.oldtag) := (cell_of hb 7).trans rfl
  have M0 := Lib.hid m0
  clear hb m0 hn hq
  go_enter Tryz.func86, Tryz.ntmps86
  unfold fname
  go_wp2
  go_ret
  exact ⟨rfl, M0.out⟩
set_option maxHeartbeats 2000000 in
set_option maxRecDepth 100000 in
theorem zero_uname (m : Msg) (vn vq : Value) (P : Nat → Prop) (w : World) (hn : SlAt w P vn (m.names.map .string)) (hq : RecsAt Qd.cells 3 w P vq m.qids) :
    Calls Tryz.prog 86 #[.agg (m.cells vn vq).toArray, .string (fname .uname)] w fun e w' => e = .returned (.bool (zeroF m .uname)) ∧ Mod (fun _ => False) w w' := by
  obtain ⟨W, hW⟩ : ∃ W, w.alloc (.cells (m.cells vn vq).toArray 33) = W := ⟨_, rfl⟩
  have hb : W.heap[w.heap.size]? = some (msgO m vn vq) := by subst hW; exact new_at _ _
  have m0 : Mod (fun _ => False) w W := by subst hW; exact (Mod.refl _ w).alloc _
  have c : W.cell? ⟨w.heap.size, 8, none⟩ = some (.string m.uname) := (cell_of hb 8).trans rfl
  have M0 := Lib.hid m0
  clear hb m0 hn hq
  go_enter Tryz.func86, Tryz.ntmps86
  unfold fname
  go_wp2
  go_ret
  exact ⟨rfl, M0.out⟩
set_option maxHeartbeats 2000000 in
set_option maxRecDepth 100000 in
theorem zero_aname (m : Msg) (vn vq : Value) (P : Nat → Prop) (w : World) (hn : SlAt w P vn (m.names.map .string)) (hq : RecsAt Qd.cells 3 w P vq m.qids) :
    Calls Tryz.prog 86 #[.agg (m.cells vn vq).toArray, .string (fname .aname)] w fun e w' => e = .returned (.bool (zeroF m .aname)) ∧ Mod (fun _ => False) w w' := by
  obtain ⟨W, hW⟩ : ∃ W, w.alloc (.cells (m.cells vn vq).toArray 33) = W := ⟨_, rfl⟩
  have hb : W.heap[w.heap.size]? = some (msgO m vn vq) := by subst hW; exact new_at _ _
  have m0 : Mod (fun _ => False) w W := by subst hW; exact (Mod.refl _ w).alloc _
  have c : W.cell? ⟨w.heap.size, 9, none⟩ = some (.string m.aname) := (cell_of hb 9).trans rfl
  have M0 := Lib.hid m0
  clear hb m0 hn hq
  go_enter Tryz.func86, Tryz.ntmps86
  unfold fname
  go_wp2
  go_ret
  exact ⟨rfl, M0.out⟩
set_option maxHeartbeats 2000000 in
set_option maxRecDepth 100000 in
theorem zero_ename (m : Msg) (vn vq : Value) (P : Nat → Prop) (w : World) (hn : SlAt w P vn (m.names.map .string)) (hq : RecsAt Qd.cells 3 w P vq m.qids) :
    Calls Tryz.prog 86 #[.agg (m.cells vn vq).toArray, .string (fname .ename)] w fun e w' => e = .returned (.bool (zeroF m .ename)) ∧ Mod (fun _ => False) w w' := by
  obtain ⟨W, hW⟩ : ∃ W, w.alloc (.cells (m.cells vn vq).toArray 33) = W := ⟨_, rfl⟩
  have hb : W.heap[w.heap.size]? = some (msgO m vn vq) := by subst hW; exact new_at _ _
  have m0 : Mod (fun _ => False) w W := by subst hW; exact (Mod.refl _ w).alloc _
  have c : W.cell? ⟨w.heap.size, 10, none⟩ = some (.string m.ename) := (cell_of hb 10).trans rfl
  have M0 := Lib.hid m0
  clear hb m0 hn hq
  go_enter Tryz.func86, Tryz.ntmps86
  unfold fname
  go_wp2
  go_ret
  exact ⟨rfl, M0.out⟩
set_option maxHeartbeats 2000000 in
set_option maxRecDepth 100000 in
theorem zero_name (m : Msg) (vn vq : Value) (P : Nat → Prop) (w : World) (hn : SlAt w P vn (m.names.map .string)) (hq : RecsAt Qd.cells 3 w P vq m.qids) :
    Calls Tryz.prog 86 #[.agg (m.cells vn vq).toArray, .string (fname .name)] w fun e w' => e = .returned (.bool (zeroF m .name)) ∧ Mod (fun _ => False) w w' := by
  obtain ⟨W, hW⟩ : ∃ W, w.alloc (.cells (m.cells vn vq).toArray 33) = W := ⟨_, rfl⟩
  have hb : W.heap[w.heap.size]? = some (msgO m vn vq) := by subst hW; exact new_at _ _
  have m0 : Mod (fun _ => False) w W := by subst hW; exact (Mod.refl _ w).alloc _
  have c : W.cell? ⟨w.heap.size, 11, none⟩ = some (.string m.name) := (cell_of hb 11).trans rfl
  have M0 := Lib.hid m0
  clear hb m0 hn hq
  go_enter Tryz.func86, Tryz.ntmps86
  unfold fname
  go_wp2
  go_ret
  exact ⟨rfl, M0.out⟩
set_option maxHeartbeats 2000000 in
set_option maxRecDepth 100000 in
theorem zero_names (m : Msg) (vn vq : Value) (P : Nat → Prop) (w : World) (hn : SlAt w P vn (m.names.map .string)) (hq : RecsAt Qd.cells 3 w P vq m.qids) :
    Calls Tryz.prog 86 #[.agg (m.cells vn vq).toArray, .string (fname .names)] w fun e w' => e = .returned (.bool (zeroF m .names)) ∧ Mod (fun _ => False) w w' := by
  obtain ⟨W, hW⟩ : ∃ W, w.alloc (.cells (m.cells vn vq).toArray 33) = W := ⟨_, rfl⟩
  have hb : W.heap[w.heap.size]? = some (msgO m vn vq) := by subst hW; exact new_at _ _
  have m0 : Mod (fun _ => False) w W := by subst hW; exact (Mod.refl _ w).alloc _
  have hfn := hn.form
  rw [List.length_map] at hfn
  obtain ⟨an, cn, rfl, hcn, _⟩ := hfn
  have c : W.cell? ⟨w.heap.size, 12, none⟩ = some (.slice an m.names.length cn) := (cell_of hb 12).trans rfl
  have M0 := Lib.hid m0
  clear hb m0 hn hq
  go_enter Tryz.func86, Tryz.ntmps86
  unfold fname
  go_wp2
  go_ret
  exact ⟨rfl, M0.out⟩
set_option maxHeartbeats 2000000 in
set_option maxRecDepth 100000 in
theorem zero_qid (m : Msg) (vn vq : Value) (P : Nat → Prop) (w : World) (hn : SlAt w P vn (m.names.map .string)) (hq : RecsAt Qd.cells 3 w P vq m.qids) :
    Calls Tryz.prog 86 #[.agg (m.cells vn vq).toArray, .string (fname .qid)] w fun e w' => e = .returned (.bool (zeroF m .qid)) ∧ Mod (fun _ => False) w w' := by
  obtain ⟨W, hW⟩ : ∃ W, w.alloc (.cells (m.cells vn vq).toArray 33) = W := ⟨_, rfl⟩
  have hb : W.heap[w.heap.size]? = some (msgO m vn vq) := by subst hW; exact new_at _ _
  have m0 : Mod (fun _ => False) w W := by subst hW; exact (Mod.refl _ w).alloc _
  have c13 : W.cell? ⟨w.heap.size, 13, none⟩ = some (.int .u8 m.qid.t) := (cell_of hb 13).trans rfl
  have c14 : W.cell? ⟨w.heap.size, 14, none⟩ = some (.int .u32 m.qid.v) := (cell_of hb 14).trans rfl
  have c15 : W.cell? ⟨w.heap.size, 15, none⟩ = some (.int .u64 m.qid.p) := (cell_of hb 15).trans rfl
  have hqe := eqQ0 m.qid
  have M0 := Lib.hid m0
  clear hb m0 hn hq
  go_enter Tryz.func86, Tryz.ntmps86
  unfold fname
  go_wp2
  go_ret
  exact ⟨rfl, M0.out⟩
set_option maxHeartbeats 2000000 in
set_option maxRecDepth 100000 in
theorem zero_qids (m : Msg) (vn vq : Value) (P : Nat → Prop) (w : World) (hn : SlAt w P vn (m.names.map .string)) (hq : RecsAt Qd.cells 3 w P vq m.qids) :
    Calls Tryz.prog 86 #[.agg (m.cells vn vq).toArray, .string (fname .qids)] w fun e w' => e = .returned (.bool (zeroF m .qids)) ∧ Mod (fun _ => False) w w' := by
  obtain ⟨W, hW⟩ : ∃ W, w.alloc (.cells (m.cells vn vq).toArray 33) = W := ⟨_, rfl⟩
  have hb : W.heap[w.heap.size]? = some (msgO m vn vq) := by subst hW; exact new_at _ _
  have m0 : Mod (fun _ => False) w W := by subst hW; exact (Mod.refl _ w).alloc _
  obtain ⟨an, cn, rfl, hcn, _⟩ := hq.form
  have c : W.cell? ⟨w.heap.size, 16, none⟩ = some (.slice an m.qids.length cn) := (cell_of hb 16).trans rfl
  have M0 := Lib.hid m0
  clear hb m0 hn hq
  go_enter Tryz.func86, Tryz.ntmps86
  unfold fname
  go_wp2
  go_ret
  exact ⟨rfl, M0.out⟩
set_option maxHeartbeats 2000000 in
set_option maxRecDepth 100000 in
theorem zero_mode (m : Msg) (vn vq : Value) (P : Nat → Prop) (w : World) (hn : SlAt w P vn (m.names.map .string)) (hq : RecsAt Qd.cells 3 w P vq m.qids) :
    Calls Tryz.prog 86 #[.agg (m.cells vn vq).toArray, .string (fname .mode)] w fun e w' => e = .returned (.bool (zeroF m .mode)) ∧ Mod (fun _ => False) w w' := by
  obtain ⟨W, hW⟩ : ∃ W, w.alloc (.cells (m.cells vn vq).toArray 33) = W := ⟨_, rfl⟩
  have hb : W.heap[w.heap.size]? = some (msgO m vn vq) := by subst hW; exact new_at _ _
  have m0 : Mod (fun _ => False) w W := by subst hW; exact (Mod.refl _ w).alloc _
  have c : W.cell? ⟨w.heap.size, 17, none⟩ = some (.int .u8 m.mode) := (cell_of hb 17).trans rfl
  have M0 := Lib.hid m0
  clear hb m0 hn hq
  go_enter Tryz.func86, Tryz.ntmps86
  unfold fname
  go_wp2
  go_ret
  exact ⟨rfl, M0.out⟩
set_option maxHeartbeats 2000000 in
set_option maxRecDepth 100000 in
theorem zero_perm (m : Msg) (vn vq : Value) (P : Nat → Prop) (w : World) (hn : SlAt w P vn (m.names.map .string)) (hq : RecsAt Qd.cells 3 w P vq m.qids) :
    Calls Tryz.prog 86 #[.agg (m.cells vn vq).toArray, .string (fname .perm)] w fun e w' => e = .returned (.bool (zeroF m .perm)) ∧ Mod (fun _ => False) w w' := by
  obtain ⟨W, hW⟩ : ∃ W, w.alloc (.cells (m.cells vn vq).toArray 33) = W := ⟨_, rfl⟩
  have hb : W.heap[w.heap.size]? = some (msgO m vn vq) := by subst hW; exact new_at _ _
  have m0 : Mod (fun _ => False) w W := by subst hW; exact (Mod.refl _ w).alloc _
  have c : W.cell? ⟨w.heap.size, 18, none⟩ = some (.int .u32 m.perm) := (cell_of hb 18).trans rfl
  have M0 := Lib.hid m0
  clear hb m0 hn hq
  go_enter Tryz.func86, Tryz.ntmps86
  unfold fname
  go_wp2
  go_ret
  exact ⟨rfl, M0.out⟩
set_option maxHeartbeats 2000000 in
set_option maxRecDepth 100000 in
theorem zero_iounit (m : Msg) (vn vq : Value) (P : Nat → Prop) (w : World) (hn : SlAt w P vn (m.names.map .string)) (hq : RecsAt Qd.cells 3 w P vq m.qids) :
    Calls Tryz.prog 86 #[.agg (m.cells vn vq).toArray, .string (fname .iounit)] w fun e w' => e = .returned (.bool (zeroF m .iounit)) ∧ Mod (fun _ => False) w w' := by
  obtain ⟨W, hW⟩ : ∃ W, w.alloc (.cells (m.cells vn vq).toArray 33) = W := ⟨_, rfl⟩
  have hb : W.heap[w.heap.size]? = some (msgO m vn vq) := by subst hW; exact new_at _ _
  have m0 : Mod (fun _ => False) w W := by subst hW; exact (Mod.refl _ w).alloc _
  have c : W.cell? ⟨w.heap.size, 19, none⟩ = some (.int .u32 m.iounit) := (cell_of hb 19).trans rfl
  have M0 := Lib.hid m0
  clear hb m0 hn hq
  go_enter Tryz.func86, Tryz.ntmps86
  unfold fname
  go_wp2
  go_ret
  exact ⟨rfl, M0.out⟩
set_option maxHeartbeats 2000000 in
set_option maxRecDepth 100000 in
theorem zero_offset (m : Msg) (vn vq : Value) (P : Nat → Prop) (w : World) (hn : SlAt w P vn (m.names.map .string)) (hq : RecsAt Qd.cells 3 w P vq m.qids) :
    Calls Tryz.prog 86 #[.agg (m.cells vn vq).toArray, .string (fname .offset)] w fun e w' => e = .returned (.bool (zeroF m .offset)) ∧ Mod (fun _ => False) w w' := by
  obtain ⟨W, hW⟩ : ∃ W, w.alloc (.cells (m.cells vn vq).toArray 33) = W := ⟨_, rfl⟩
  have hb : W.heap[w.heap.size]? = some (msgO m vn vq) := by subst hW; exact new_at _ _
  have m0 : Mod (fun _ => False) w W := by subst hW; exact (Mod.refl _ w).alloc _
  have c : W.cell? ⟨w.heap.size, 20, none⟩ = some (.int .u64 m.offset) := (cell_of hb 20).trans rfl
  have M0 := Lib.hid m0
  clear hb m0 hn hq
  go_enter Tryz.func86, Tryz.ntmps86
  unfold fname
  go_wp2
  go_ret
  exact ⟨rfl, M0.out⟩
set_option maxHeartbeats 2000000 in
set_option maxRecDepth 100000 in
theorem zero_count (m : Msg) (vn vq : Value) (P : Nat → Prop) (w : World) (hn : SlAt w P vn (m.names.map .string)) (hq : RecsAt Qd.cells 3 w P vq m.qids) :
    Calls Tryz.prog 86 #[.agg (m.cells vn vq).toArray, .string (fname .count)] w fun e w' => e = .returned (.bool (zeroF m .count)) ∧ Mod (fun _ => False) w w' := by
  obtain ⟨W, hW⟩ : ∃ W, w.alloc (.cells (m.cells vn vq).toArray 33) = W := ⟨_, rfl⟩
  have hb : W.heap[w.heap.size]? = some (msgO m vn vq) := by subst hW; exact new_at _ _
  have m0 : Mod (fun _ => False) w W := by subst hW; exact (Mod.refl _ w).alloc _
  have c : W.cell? ⟨w.heap.size, 21, none⟩ = some (.int .u32 m.count) := (cell_of hb 21).trans rfl
  have M0 := Lib.hid m0
  clear hb m0 hn hq
  go_enter Tryz.func86, Tryz.ntmps86
  unfold fname
  go_wp2
  go_ret
  exact ⟨rfl, M0.out⟩
set_option maxHeartbeats 2000000 in
set_option maxRecDepth 100000 in
theorem zero_data (m : Msg) (vn vq : Value) (P : Nat → Prop) (w : World) (hn : SlAt w P vn (m.names.map .string)) (hq : RecsAt Qd.cells 3 w P vq m.qids) :
    Calls Tryz.prog 86 #[.agg (m.cells vn vq).toArray, .string (fname .data)] w fun e w' => e = .returned (.bool (zeroF m .data)) ∧ Mod (fun _ => False) w w' := by
  obtain ⟨W, hW⟩ : ∃ W, w.alloc (.cells (m.cells vn vq).toArray 33) = W := ⟨_, rfl⟩
  have hb : W.heap[w.heap.size]? = some (msgO m vn vq) := by subst hW; exact new_at _ _
  have m0 : Mod (fun _ => False) w W := by subst hW; exact (Mod.refl _ w).alloc _
  have c : W.cell? ⟨w.heap.size, 22, none⟩ = some (.string m.data) := (cell_of hb 22).trans rfl
  have M0 := Lib.hid m0
  clear hb m0 hn hq
  go_enter Tryz.func86, Tryz.ntmps86
  unfold fname
  go_wp2
  go_ret
  exact ⟨rfl, M0.out⟩
set_option maxHeartbeats 2000000 in
set_option maxRecDepth 100000 in
theorem zero_stat (m : Msg) (vn vq : Value) (P : Nat → Prop) (w : World) (hn : SlAt w P vn (m.names.map .string)) (hq : RecsAt Qd.cells 3 w P vq m.qids) :
    Calls Tryz.prog 86 #[.agg (m.cells vn vq).toArray, .string (fname .stat)] w fun e w' => e = .returned (.bool (zeroF m .stat)) ∧ Mod (fun _ => False) w w' := by
  obtain ⟨W, hW⟩ : ∃ W, w.alloc (.cells (m.cells vn vq).toArray 33) = W := ⟨_, rfl⟩
  have hb : W.heap[w.heap.size]? = some (msgO m vn vq) := by subst hW; exact new_at _ _
  have m0 : Mod (fun _ => False) w W := by subst hW; exact (Mod.refl _ w).alloc _
  have s0 : W.cell? ⟨w.heap.size, 23, none⟩ = some (.int .u16 m.stat.ty) := (cell_of hb 23).trans rfl
  have s1 : W.cell? ⟨w.heap.size, 24, none⟩ = some (.int .u32 m.stat.dev) := (cell_of hb 24).trans rfl
  have s2 : W.cell? ⟨w.heap.size, 25, none⟩ = some (.int .u8 m.stat.qt) := (cell_of hb 25).trans rfl
  have s3 : W.cell? ⟨w.heap.size, 26, none⟩ = some (.int .u32 m.stat.qv) := (cell_of hb 26).trans rfl
  have s4 : W.cell? ⟨w.heap.size, 27, none⟩ = some (.int .u64 m.stat.qp) := (cell_of hb 27).trans rfl
  have s5 : W.cell? ⟨w.heap.size, 28, none⟩ = some (.int .u32 m.stat.mo) := (cell_of hb 28).trans rfl
  have s6 : W.cell? ⟨w.heap.size, 29, none⟩ = some (.int .u32 m.stat.at_) := (cell_of hb 29).trans rfl
  have s7 : W.cell? ⟨w.heap.size, 30, none⟩ = some (.int .u32 m.stat.mt) := (cell_of hb 30).trans rfl
  have s8 : W.cell? ⟨w.heap.size, 31, none⟩ = some (.int .u64 m.stat.len) := (cell_of hb 31).trans rfl
  have s9 : W.cell? ⟨w.heap.size, 32, none⟩ = some (.string m.stat.n) := (cell_of hb 32).trans rfl
  have s10 : W.cell? ⟨w.heap.size, 33, none⟩ = some (.string m.stat.u) := (cell_of hb 33).trans rfl
  have s11 : W.cell? ⟨w.heap.size, 34, none⟩ = some (.string m.stat.g) := (cell_of hb 34).trans rfl
  have s12 : W.cell? ⟨w.heap.size, 35, none⟩ = some (.string m.stat.m) := (cell_of hb 35).trans rfl
  have hse := eql_any m.stat St.zero
  have hsz : (St.zero).v = .agg #[.int .u16 0, .int .u32 0, .int .u8 0, .int .u32 0, .int .u64 0, .int .u32 0, .int .u32 0, .int .u32 0, .int .u64 0, .string { data := #[] }, .string { data := #[] }, .string { data := #[] }, .string { data := #[] }] := rfl
  rw [hsz] at hse
  unfold St.v St.cells at hse
  have M0 := Lib.hid m0
  clear hb m0 hn hq
  go_enter Tryz.func86, Tryz.ntmps86
  unfold fname
  go_wp2
  go_ret
  exact ⟨rfl, M0.out⟩
theorem zero24_any (f : Fld) (m : Msg) (vn vq : Value) (P : Nat → Prop) (w : World) (hn : SlAt w P vn (m.names.map .string)) (hq : RecsAt Qd.cells 3 w P vq m.qids) :
    Calls Tryz.prog 86 #[.agg (m.cells vn vq).toArray, .string (fname f)] w fun e w' => e = .returned (.bool (zeroF m f)) ∧ Mod (fun _ => False) w w' := by
  cases f
  · exact zero_msize m vn vq P w hn hq
  · exact zero_version m vn vq P w hn hq
  · exact zero_fid m vn vq P w hn hq
  · exact zero_afid m vn vq P w hn hq
  · exact zero_newfid m vn vq P w hn hq
  · exact zero_oldtag m vn vq P w hn hq
  · exact zero_uname m vn vq P w hn hq
  · exact zero_aname m vn vq P w hn hq
  · exact zero_ename m vn vq P w hn hq
  · exact zero_name m vn vq P w hn hq
  · exact zero_names m vn vq P w hn hq
  · exact zero_qid m vn vq P w hn hq
  · exact zero_qids m vn vq P w hn hq
  · exact zero_mode m vn vq P w hn hq
  · exact zero_perm m vn vq P w hn hq
  · exact zero_iounit m vn vq P w hn hq
  · exact zero_offset m vn vq P w hn hq
  · exact zero_count m vn vq P w hn hq
  · exact zero_data m vn vq P w hn hq
  · exact zero_stat m vn vq P w hn hq
end Go.Proofs.YtklpopmjpgdjnaaGreatDoor
