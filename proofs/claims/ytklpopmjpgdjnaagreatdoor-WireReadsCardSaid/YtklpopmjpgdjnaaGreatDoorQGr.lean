/- The document's width, number and front.
   The document's list: names, or qids, off the front of bytes. -/
import Derived.Test.YtklpopmjpgdjnaaGreatDoorQRefWr
import Derived.Test.YtklpopmjpgdjnaaGreatDoorQPenRF
import Derived.Test.YtklpopmjpgdjnaaGreatDoorQStatRRead
import Derived.Test.YtklpopmjpgdjnaaGreatDoorQGq
import Derived.Test.YtklpopmjpgdjnaaGreatDoorQGc
import Derived.Test.YtklpopmjpgdjnaaGreatDoorQPenRQ
set_option linter.unusedVariables false
set_option linter.unusedSimpArgs false
namespace Go.Proofs.YtklpopmjpgdjnaaGreatDoor
open Go.RowKit

def widthF : Fld → Nat
  | .mode => 1 | .oldtag => 2 | .msize => 4 | .fid => 4 | .afid => 4 | .newfid => 4 | .perm => 4 | .iounit => 4 | .count => 4 | .offset => 8 | _ => 0
theorem width_msize (w : World) : Calls Tryz.prog 74 #[.string (fname .msize)] w fun e w' => e = .returned (.int .i64 4) ∧ w = w' := by
  go_enter Tryz.func74, Tryz.ntmps74
  unfold fname
  go_wp2
  go_ret
  exact ⟨rfl, rfl⟩
theorem width_version (w : World) : Calls Tryz.prog 74 #[.string (fname .version)] w fun e w' => e = .returned (.int .i64 0) ∧ w = w' := by
  go_enter Tryz.func74, Tryz.ntmps74
  unfold fname
  go_wp2
  go_ret
  exact ⟨rfl, rfl⟩
theorem width_fid (w : World) : Calls Tryz.prog 74 #[.string (fname .fid)] w fun e w' => e = .returned (.int .i64 4) ∧ w = w' := by
  go_enter Tryz.func74, Tryz.ntmps74
  unfold fname
  go_wp2
  go_ret
  exact ⟨rfl, rfl⟩
theorem width_afid (w : World) : Calls Tryz.prog 74 #[.string (fname .afid)] w fun e w' => e = .returned (.int .i64 4) ∧ w = w' := by
  go_enter Tryz.func74, Tryz.ntmps74
  unfold fname
  go_wp2
  go_ret
  exact ⟨rfl, rfl⟩
theorem width_newfid (w : World) : Calls Tryz.prog 74 #[.string (fname .newfid)] w fun e w' => e = .returned (.int .i64 4) ∧ w = w' := by
  go_enter Tryz.func74, Tryz.ntmps74
  unfold fname
  go_wp2
  go_ret
  exact ⟨rfl, rfl⟩
theorem width_oldtag (w : World) : Calls Tryz.prog 74 #[.string (fname .oldtag)] w fun e w' => e = .returned (.int .i64 2) ∧ w = w' := by
  go_enter Tryz.func74, Tryz.ntmps74
  unfold fname
  go_wp2
  go_ret
  exact ⟨rfl, rfl⟩
theorem width_uname (w : World) : Calls Tryz.prog 74 #[.string (fname .uname)] w fun e w' => e = .returned (.int .i64 0) ∧ w = w' := by
  go_enter Tryz.func74, Tryz.ntmps74
  unfold fname
  go_wp2
  go_ret
  exact ⟨rfl, rfl⟩
theorem width_aname (w : World) : Calls Tryz.prog 74 #[.string (fname .aname)] w fun e w' => e = .returned (.int .i64 0) ∧ w = w' := by
  go_enter Tryz.func74, Tryz.ntmps74
  unfold fname
  go_wp2
  go_ret
  exact ⟨rfl, rfl⟩
theorem width_ename (w : World) : Calls Tryz.prog 74 #[.string (fname .ename)] w fun e w' => e = .returned (.int .i64 0) ∧ w = w' := by
  go_enter Tryz.func74, Tryz.ntmps74
  unfold fname
  go_wp2
  go_ret
  exact ⟨rfl, rfl⟩
theorem width_name (w : World) : Calls Tryz.prog 74 #[.string (fname .name)] w fun e w' => e = .returned (.int .i64 0) ∧ w = w' := by
  go_enter Tryz.func74, Tryz.ntmps74
  unfold fname
  go_wp2
  go_ret
  exact ⟨rfl, rfl⟩
theorem width_names (w : World) : Calls Tryz.prog 74 #[.string (fname .names)] w fun e w' => e = .returned (.int .i64 0) ∧ w = w' := by
  go_enter Tryz.func74, Tryz.ntmps74
  unfold fname
  go_wp2
  go_ret
  exact ⟨rfl, rfl⟩
theorem width_qid (w : World) : Calls Tryz.prog 74 #[.string (fname .qid)] w fun e w' => e = .returned (.int .i64 0) ∧ w = w' := by
  go_enter Tryz.func74, Tryz.ntmps74
  unfold fname
  go_wp2
  go_ret
  exact ⟨rfl, rfl⟩
theorem width_qids (w : World) : Calls Tryz.prog 74 #[.string (fname .qids)] w fun e w' => e = .returned (.int .i64 0) ∧ w = w' := by
  go_enter Tryz.func74, Tryz.ntmps74
  unfold fname
  go_wp2
  go_ret
  exact ⟨rfl, rfl⟩
theorem width_mode (w : World) : Calls Tryz.prog 74 #[.string (fname .mode)] w fun e w' => e = .returned (.int .i64 1) ∧ w = w' := by
  go_enter Tryz.func74, Tryz.ntmps74
  unfold fname
  go_wp2
  go_ret
  exact ⟨rfl, rfl⟩
theorem width_perm (w : World) : Calls Tryz.prog 74 #[.string (fname .perm)] w fun e w' => e = .returned (.int .i64 4) ∧ w = w' := by
  go_enter Tryz.func74, Tryz.ntmps74
  unfold fname
  go_wp2
  go_ret
  exact ⟨rfl, rfl⟩
theorem width_iounit (w : World) : Calls Tryz.prog 74 #[.string (fname .iounit)] w fun e w' => e = .returned (.int .i64 4) ∧ w = w' := by
  go_enter Tryz.func74, Tryz.ntmps74
  unfold fname
  go_wp2
  go_ret
  exact ⟨rfl, rfl⟩
theorem width_offset (w : World) : Calls Tryz.prog 74 #[.string (fname .offset)] w fun e w' => e = .returned (.int .i64 8) ∧ w = w' := by
  go_enter Tryz.func74, Tryz.ntmps74
  unfold fname
  go_wp2
  go_ret
  exact ⟨rfl, rfl⟩
theorem width_count (w : World) : Calls Tryz.prog 74 #[.string (fname .count)] w fun e w' => e = .returned (.int .i64 4) ∧ w = w' := by
  go_enter Tryz.func74, Tryz.ntmps74
  unfold fname
  go_wp2
  go_ret
  exact ⟨rfl, rfl⟩
theorem width_data (w : World) : Calls Tryz.prog 74 #[.string (fname .data)] w fun e w' => e = .returned (.int .i64 0) ∧ w = w' := by
  go_enter Tryz.func74, Tryz.ntmps74
  unfold fname
  go_wp2
  go_ret
  exact ⟨rfl, rfl⟩
theorem width_stat (w : World) : Calls Tryz.prog 74 #[.string (fname .stat)] w fun e w' => e = .returned (.int .i64 0) ∧ w = w' := by
  go_enter Tryz.func74, Tryz.ntmps74
  unfold fname
  go_wp2
  go_ret
  exact ⟨rfl, rfl⟩
set_option maxHeartbeats 1000000 in
theorem number_mode (bm x : Nat) (m : Msg) (vn vq : Value) (w : World) (h : w.heap[bm]? = some (msgO m vn vq)) (hx : x < 256) :
    Calls Tryz.prog 75 #[.pointer (some ⟨bm, 0, none⟩), .string (fname .mode), .int .u64 x] w fun e w' => e = .returned (.tuple #[]) ∧ w'.heap[bm]? = some (msgO { m with mode := x } vn vq) ∧ Mod (· = bm) w w' := by
  have c : w.cell? ⟨bm, 17, none⟩ = some (.int .u8 m.mode) := (cell_of h 17).trans rfl
  have f : w.frozen? ⟨bm, 17, none⟩ = false := free_of h 17
  have hw : IntKind.u8.wrap (x : Int) = x := by rw [IntKind.wrap_u8]; omega
  have HE : Hid ((w.setCell ⟨bm, 17, none⟩ (.int .u8 x)).heap[bm]? = some (msgO { m with mode := x } vn vq) ∧ Mod (· = bm) w (w.setCell ⟨bm, 17, none⟩ (.int .u8 x))) := ⟨heap_set h 17 _, Mod.set1 w bm 17 _⟩
  clear h hx
  go_enter Tryz.func75, Tryz.ntmps75
  unfold fname
  go_wp2
  go_end0
  exact ⟨rfl, HE.out⟩
set_option maxHeartbeats 1000000 in
theorem number_oldtag (bm x : Nat) (m : Msg) (vn vq : Value) (w : World) (h : w.heap[bm]? = some (msgO m vn vq)) (hx : x < 65536) :
    Calls Tryz.prog 75 #[.pointer (some ⟨bm, 0, none⟩), .string (fname .oldtag), .int .u64 x] w fun e w' => e = .returned (.tuple #[]) ∧ w'.heap[bm]? = some (msgO { m with oldtag := x } vn vq) ∧ Mod (· = bm) w w' := by
  have c : w.cell? ⟨bm, 7, none⟩ = some (.int .u16 m.oldtag) := (cell_of h 7).trans rfl
  have f : w.frozen? ⟨bm, 7, none⟩ = false := free_of h 7
  have hw : IntKind.u16.wrap (x : Int) = x := by rw [IntKind.wrap_u16]; omega
  have HE : Hid ((w.setCell ⟨bm, 7, none⟩ (.int .u16 x)).heap[bm]? = some (msgO { m with oldtag := x } vn vq) ∧ Mod (· = bm) w (w.setCell ⟨bm, 7, none⟩ (.int .u16 x))) := ⟨heap_set h 7 _, Mod.set1 w bm 7 _⟩
  clear h hx
  go_enter Tryz.func75, Tryz.ntmps75
  unfold fname
  go_wp2
  go_end0
  exact ⟨rfl, HE.out⟩
set_option maxHeartbeats 1000000 in
theorem number_msize (bm x : Nat) (m : Msg) (vn vq : Value) (w : World) (h : w.heap[bm]? = some (msgO m vn vq)) (hx : x < 4294967296) :
    Calls Tryz.prog 75 #[.pointer (some ⟨bm, 0, none⟩), .string (fname .msize), .int .u64 x] w fun e w' => e = .returned (.tuple #[]) ∧ w'.heap[bm]? = some (msgO { m with msize := x } vn vq) ∧ Mod (· = bm) w w' := by
  have c : w.cell? ⟨bm, 2, none⟩ = some (.int .u32 m.msize) := (cell_of h 2).trans rfl
  have f : w.frozen? ⟨bm, 2, none⟩ = false := free_of h 2
  have hw : IntKind.u32.wrap (x : Int) = x := by rw [IntKind.wrap_u32]; omega
  have HE : Hid ((w.setCell ⟨bm, 2, none⟩ (.int .u32 x)).heap[bm]? = some (msgO { m with msize := x } vn vq) ∧ Mod (· = bm) w (w.setCell ⟨bm, 2, none⟩ (.int .u32 x))) := ⟨heap_set h 2 _, Mod.set1 w bm 2 _⟩
  clear h hx
  go_enter Tryz.func75, Tryz.ntmps75
  unfold fname
  go_wp2
  go_end0
  exact ⟨rfl, HE.out⟩
set_option maxHeartbeats 1000000 in
theorem number_fid (bm x : Nat) (m : Msg) (vn vq : Value) (w : World) (h : w.heap[bm]? = some (msgO m vn vq)) (hx : x < 4294967296) :
    Calls Tryz.prog 75 #[.pointer (some ⟨bm, 0, none⟩), .string (fname .fid), .int .u64 x] w fun e w' => e = .returned (.tuple #[]) ∧ w'.heap[bm]? = some (msgO { m with fid := x } vn vq) ∧ Mod (· = bm) w w' := by
  have c : w.cell? ⟨bm, 4, none⟩ = some (.int .u32 m.fid) := (cell_of h 4).trans rfl
  have f : w.frozen? ⟨bm, 4, none⟩ = false := free_of h 4
  have hw : IntKind.u32.wrap (x : Int) = x := by rw [IntKind.wrap_u32]; omega
  have HE : Hid ((w.setCell ⟨bm, 4, none⟩ (.int .u32 x)).heap[bm]? = some (msgO { m with fid := x } vn vq) ∧ Mod (· = bm) w (w.setCell ⟨bm, 4, none⟩ (.int .u32 x))) := ⟨heap_set h 4 _, Mod.set1 w bm 4 _⟩
  clear h hx
  go_enter Tryz.func75, Tryz.ntmps75
  unfold fname
  go_wp2
  go_end0
  exact ⟨rfl, HE.out⟩
set_option maxHeartbeats 1000000 in
theorem number_afid (bm x : Nat) (m : Msg) (vn vq : Value) (w : World) (h : w.heap[bm]? = some (msgO m vn vq)) (hx : x < 4294967296) :
    Calls Tryz.prog 75 #[.pointer (some ⟨bm, 0, none⟩), .string (fname .afid), .int .u64 x] w fun e w' => e = .returned (.tuple #[]) ∧ w'.heap[bm]? = some (msgO { m with afid := x } vn vq) ∧ Mod (· = bm) w w' := by
  have c : w.cell? ⟨bm, 5, none⟩ = some (.int .u32 m.afid) := (cell_of h 5).trans rfl
  have f : w.frozen? ⟨bm, 5, none⟩ = false := free_of h 5
  have hw : IntKind.u32.wrap (x : Int) = x := by rw [IntKind.wrap_u32]; omega
  have HE : Hid ((w.setCell ⟨bm, 5, none⟩ (.int .u32 x)).heap[bm]? = some (msgO { m with afid := x } vn vq) ∧ Mod (· = bm) w (w.setCell ⟨bm, 5, none⟩ (.int .u32 x))) := ⟨heap_set h 5 _, Mod.set1 w bm 5 _⟩
  clear h hx
  go_enter Tryz.func75, Tryz.ntmps75
  unfold fname
  go_wp2
  go_end0
  exact ⟨rfl, HE.out⟩
set_option maxHeartbeats 1000000 in
theorem number_newfid (bm x : Nat) (m : Msg) (vn vq : Value) (w : World) (h : w.heap[bm]? = some (msgO m vn vq)) (hx : x < 4294967296) :
    Calls Tryz.prog 75 #[.pointer (some ⟨bm, 0, none⟩), .string (fname .newfid), .int .u64 x] w fun e w' => e = .returned (.tuple #[]) ∧ w'.heap[bm]? = some (msgO { m with newfid := x } vn vq) ∧ Mod (· = bm) w w' := by
  have c : w.cell? ⟨bm, 6, none⟩ = some (.int .u32 m.newfid) := (cell_of h 6).trans rfl
  have f : w.frozen? ⟨bm, 6, none⟩ = false := free_of h 6
  have hw : IntKind.u32.wrap (x : Int) = x := by rw [IntKind.wrap_u32]; omega
  have HE : Hid ((w.setCell ⟨bm, 6, none⟩ (.int .u32 x)).heap[bm]? = some (msgO { m with newfid := x } vn vq) ∧ Mod (· = bm) w (w.setCell ⟨bm, 6, none⟩ (.int .u32 x))) := ⟨heap_set h 6 _, Mod.set1 w bm 6 _⟩
  clear h hx
  go_enter Tryz.func75, Tryz.ntmps75
  unfold fname
  go_wp2
  go_end0
  exact ⟨rfl, HE.out⟩
set_option maxHeartbeats 1000000 in
theorem number_perm (bm x : Nat) (m : Msg) (vn vq : Value) (w : World) (h : w.heap[bm]? = some (msgO m vn vq)) (hx : x < 4294967296) :
    Calls Tryz.prog 75 #[.pointer (some ⟨bm, 0, none⟩), .string (fname .perm), .int .u64 x] w fun e w' => e = .returned (.tuple #[]) ∧ w'.heap[bm]? = some (msgO { m with perm := x } vn vq) ∧ Mod (· = bm) w w' := by
  have c : w.cell? ⟨bm, 18, none⟩ = some (.int .u32 m.perm) := (cell_of h 18).trans rfl
  have f : w.frozen? ⟨bm, 18, none⟩ = false := free_of h 18
  have hw : IntKind.u32.wrap (x : Int) = x := by rw [IntKind.wrap_u32]; omega
  have HE : Hid ((w.setCell ⟨bm, 18, none⟩ (.int .u32 x)).heap[bm]? = some (msgO { m with perm := x } vn vq) ∧ Mod (· = bm) w (w.setCell ⟨bm, 18, none⟩ (.int .u32 x))) := ⟨heap_set h 18 _, Mod.set1 w bm 18 _⟩
  clear h hx
  go_enter Tryz.func75, Tryz.ntmps75
  unfold fname
  go_wp2
  go_end0
  exact ⟨rfl, HE.out⟩
set_option maxHeartbeats 1000000 in
theorem number_iounit (bm x : Nat) (m : Msg) (vn vq : Value) (w : World) (h : w.heap[bm]? = some (msgO m vn vq)) (hx : x < 4294967296) :
    Calls Tryz.prog 75 #[.pointer (some ⟨bm, 0, none⟩), .string (fname .iounit), .int .u64 x] w fun e w' => e = .returned (.tuple #[]) ∧ w'.heap[bm]? = some (msgO { m with iounit := x } vn vq) ∧ Mod (· = bm) w w' := by
  have c : w.cell? ⟨bm, 19, none⟩ = some (.int .u32 m.iounit) := (cell_of h 19).trans rfl
  have f : w.frozen? ⟨bm, 19, none⟩ = false := free_of h 19
  have hw : IntKind.u32.wrap (x : Int) = x := by rw [IntKind.wrap_u32]; omega
  have HE : Hid ((w.setCell ⟨bm, 19, none⟩ (.int .u32 x)).heap[bm]? = some (msgO { m with iounit := x } vn vq) ∧ Mod (· = bm) w (w.setCell ⟨bm, 19, none⟩ (.int .u32 x))) := ⟨heap_set h 19 _, Mod.set1 w bm 19 _⟩
  clear h hx
  go_enter Tryz.func75, Tryz.ntmps75
  unfold fname
  go_wp2
  go_end0
  exact ⟨rfl, HE.out⟩
set_option maxHeartbeats 1000000 in
theorem number_count (bm x : Nat) (m : Msg) (vn vq : Value) (w : World) (h : w.heap[bm]? = some (msgO m vn vq)) (hx : x < 4294967296) :
    Calls Tryz.prog 75 #[.pointer (some ⟨bm, 0, none⟩), .string (fname .count), .int .u64 x] w fun e w' => e = .returned (.tuple #[]) ∧ w'.heap[bm]? = some (msgO { m with count := x } vn vq) ∧ Mod (· = bm) w w' := by
  have c : w.cell? ⟨bm, 21, none⟩ = some (.int .u32 m.count) := (cell_of h 21).trans rfl
  have f : w.frozen? ⟨bm, 21, none⟩ = false := free_of h 21
  have hw : IntKind.u32.wrap (x : Int) = x := by rw [IntKind.wrap_u32]; omega
  have HE : Hid ((w.setCell ⟨bm, 21, none⟩ (.int .u32 x)).heap[bm]? = some (msgO { m with count := x } vn vq) ∧ Mod (· = bm) w (w.setCell ⟨bm, 21, none⟩ (.int .u32 x))) := ⟨heap_set h 21 _, Mod.set1 w bm 21 _⟩
  clear h hx
  go_enter Tryz.func75, Tryz.ntmps75
  unfold fname
  go_wp2
  go_end0
  exact ⟨rfl, HE.out⟩
set_option maxHeartbeats 1000000 in
theorem number_offset (bm x : Nat) (m : Msg) (vn vq : Value) (w : World) (h : w.heap[bm]? = some (msgO m vn vq)) (hx : x < 18446744073709551616) :
    Calls Tryz.prog 75 #[.pointer (some ⟨bm, 0, none⟩), .string (fname .offset), .int .u64 x] w fun e w' => e = .returned (.tuple #[]) ∧ w'.heap[bm]? = some (msgO { m with offset := x } vn vq) ∧ Mod (· = bm) w w' := by
  have c : w.cell? ⟨bm, 20, none⟩ = some (.int .u64 m.offset) := (cell_of h 20).trans rfl
  have f : w.frozen? ⟨bm, 20, none⟩ = false := free_of h 20
  have hw : IntKind.u64.wrap (x : Int) = x := by rw [IntKind.wrap_u64]; omega
  have HE : Hid ((w.setCell ⟨bm, 20, none⟩ (.int .u64 x)).heap[bm]? = some (msgO { m with offset := x } vn vq) ∧ Mod (· = bm) w (w.setCell ⟨bm, 20, none⟩ (.int .u64 x))) := ⟨heap_set h 20 _, Mod.set1 w bm 20 _⟩
  clear h hx
  go_enter Tryz.func75, Tryz.ntmps75
  unfold fname
  go_wp2
  go_end0
  exact ⟨rfl, HE.out⟩
set_option maxHeartbeats 1000000 in
theorem front_any (s : ByteArray) (w : World) (hs : s.size ≤ 65536) :
    Calls Tryz.prog 79 #[.string s] w fun e w' => e = .returned (.tuple #[.string (frontF s).1, .int .i64 (frontF s).2]) ∧ w = w' := by
  by_cases h : s.size < 2
  · rw [frontF_no h]
    have t1 : decide ((s.size : Int) < 2) = true := by simp; omega
    go_enter Tryz.func79, Tryz.ntmps79
    go_wp2
    go_ret2
    exact ⟨rfl, rfl⟩
  · rw [frontF_yes (by omega)]
    have t1 : decide ((s.size : Int) < 2) = false := by simp; omega
    have hT := fun U => read_any (s.extract 0 2) U (by rw [ByteArray.size_extract]; omega)
    have hlt := leNat_lt (s.extract 0 2).data.toList
    have hb2 : (s.extract 0 2).data.toList.length = 2 := by rw [bsize, ByteArray.size_extract]; omega
    rw [hb2] at hlt
    have hlt : leNat (s.extract 0 2).data.toList < 65536 := hlt
    generalize leNat (s.extract 0 2).data.toList = n at *
    have b1 : (2 : Int) ≤ s.size := by omega
    have b1' : 2 ≤ s.size := by omega
    have hw : IntKind.i64.wrap (n : Int) = n := by rw [IntKind.wrap_i64]; omega
    clear hb2
    by_cases hn : s.size < 2 + n
    · rw [if_pos hn]
      have t2 : decide ((s.size : Int) - 2 < (n : Int)) = true := by simp; omega
      go_enter Tryz.func79, Tryz.ntmps79
      go_wp2_with (go_at_call 32; refine (hT _).mono ?_; rintro e w1 ⟨rfl, rfl⟩)
      go_ret2
      exact ⟨rfl, rfl⟩
    · rw [if_neg hn]
      have t2 : decide ((s.size : Int) - 2 < (n : Int)) = false := by simp; omega
      have b2 : 2 + (n : Int) ≤ s.size := by omega
      have b2' : 2 + n ≤ s.size := by omega
      have b3 : (2 : Int) ≤ 2 + n := by omega
      go_enter Tryz.func79, Tryz.ntmps79
      go_wp2_with (go_at_call 32; refine (hT _).mono ?_; rintro e w1 ⟨rfl, rfl⟩)
      go_ret2
      exact ⟨by congr 3, rfl⟩
end Go.Proofs.YtklpopmjpgdjnaaGreatDoor
namespace Go.Proofs.YtklpopmjpgdjnaaGreatDoor
open Go.RowKit

/-- a message in a cell block, its two lists in rows of its own from block B on -/
structure DMsg (w : World) (B bm : Nat) (m : Msg) (vn vq : Value) : Prop where
  obj : w.heap[bm]? = some (msgO m vn vq)
  names : OwnA w B 1 vn m.names.length (m.names.map .string)
  qids : OwnA w B 3 vq m.qids.length (flatR Qd.cells m.qids)
  n0 : m.names = [] → vn = .slice none 0 0
  q0 : m.qids = [] → vq = .slice none 0 0
def RdPost (w : World) (B bm : Nat) (x : Msg) (s : ByteArray) (f : Fld) (e : Ending) (w' : World) : Prop :=
  ∃ n : Int, e = .returned (.int .i64 n) ∧ Mod (· = bm) w w' ∧ ((readF x s f = none ∧ n = -1) ∨ ∃ (y : Msg) (k : Nat) (vn vq : Value), readF x s f = some (y, k) ∧ n = k ∧ DMsg w' B bm y vn vq)
theorem DMsg.put {w w' : World} {B bm : Nat} {x y : Msg} {vn vq : Value} (h : DMsg w B bm x vn vq) (hB : bm < B) (hm : Mod (· = bm) w w') (ho : w'.heap[bm]? = some (msgO y vn vq)) (e1 : y.names = x.names) (e2 : y.qids = x.qids) : DMsg w' B bm y vn vq :=
  ⟨ho, by rw [e1]; exact h.names.mod hm (fun k hk e => by omega), by rw [e2]; exact h.qids.mod hm (fun k hk e => by omega), by rw [e1]; exact h.n0, by rw [e2]; exact h.q0⟩
theorem src_str1 (f : ByteArray) (wr : World) : Src Tryz.prog 1 25 (.slice (some ⟨wr.heap.size, 0, none⟩) 1 1) 1 [.string f] (wr.alloc (.cells #[.string f] 9)) :=
  Src.ofSlice _ Tryz.underlying25 _ _ _ _ rfl (fun j u hj => by
    cases j with
    | zero => cases hj; exact (cell_of (new_at wr _) 0).trans rfl
    | succ j => cases hj) (by intro u hu; simp only [List.mem_cons, List.not_mem_nil, or_false] at hu; subst hu; rfl)
/-- the loop over names: W the world ahead of it, U now -/
structure NamesAt (W U : World) (B bm : Nat) (x : Msg) (vn vq : Value) (l : List ByteArray) : Prop where
  m : DMsg U B bm { x with names := l } vn vq
  own : OwnA U W.heap.size 1 vn l.length (l.map .string)
  qlt : ∀ k, some k = vq.ownBlock → k < W.heap.size
  md : Mod (· = bm) W U
theorem NamesAt.push {W U V : World} {B bm : Nat} {x : Msg} {vn vq v' : Value} {l : List ByteArray} {t : ByteArray} (h : NamesAt W U B bm x vn vq l) (hB : bm < B) (hBW : B ≤ W.heap.size) (hm : Mod (fun k => some k = vn.ownBlock) U V)
    (ho : OwnA V W.heap.size 1 v' (l.length + 1) (l.map .string ++ [.string t])) : NamesAt W (V.setCell ⟨bm, 12, none⟩ v') B bm x v' vq (l ++ [t]) := by
  have hO : ∀ k, some k = vn.ownBlock → W.heap.size ≤ k := fun k hk => (h.own.lt k hk).1
  have hob := (hm.block bm (lt_of h.m.obj) (fun e => by have := hO bm e; omega)).trans h.m.obj
  have hs : Mod (· = bm) V (V.setCell ⟨bm, 12, none⟩ v') := Mod.set1 V bm 12 v'
  have hq : OwnA V B 3 vq x.qids.length (flatR Qd.cells x.qids) := h.m.qids.modB hm fun k hk e => by have := hO k e; have := h.qlt k hk; omega
  have hw : OwnA (V.setCell ⟨bm, 12, none⟩ v') W.heap.size 1 v' (l ++ [t]).length ((l ++ [t]).map .string) := by
    rw [List.length_append, List.map_append]
    exact ho.mod hs fun k hk e => by omega
  exact ⟨⟨heap_set hob 12 v', hw.mono hBW, hq.mod hs (fun k hk e => by omega), fun e => by simp at e, h.m.q0⟩, hw, h.qlt, (h.md.trans' hm fun k hk e => by have := hO k e; omega).trans hs⟩
set_option maxHeartbeats 4000000 in
set_option maxRecDepth 100000 in
theorem rlist_names (B bm : Nat) (x : Msg) (vn vq : Value) (s : ByteArray) (w : World) (h : DMsg w B bm x vn vq) (hB : bm < B) (hBw : B ≤ w.heap.size) (hx : x.names = []) (hs : s.size ≤ 65536) :
    Calls Tryz.prog 77 #[.pointer (some ⟨bm, 0, none⟩), .string (fname .names), .string s] w (RdPost w B bm x s .names) := by
  by_cases hz : s.size < 2
  · have t1 : decide ((s.size : Int) < 2) = true := by simp; omega
    have hr := (readF_short (x := x) hz).1
    clear h
    go_enter Tryz.func77, Tryz.ntmps77
    unfold fname
    go_wp2
    go_ret
    exact ⟨-1, rfl, Mod.refl _ _, .inl ⟨hr, rfl⟩⟩
  have t1 : decide ((s.size : Int) < 2) = false := by simp; omega
  have HR := Lib.hid (readF_names (x := x) (s := s) (by omega))
  have hT := fun U => read_any (s.extract 0 2) U (by rw [ByteArray.size_extract]; omega)
  have hlt := leNat_lt (s.extract 0 2).data.toList
  have hb2 : (s.extract 0 2).data.toList.length = 2 := by rw [bsize, ByteArray.size_extract]; omega
  rw [hb2] at hlt
  have hlt : leNat (s.extract 0 2).data.toList < 65536 := hlt
  generalize leNat (s.extract 0 2).data.toList = n at *
  have b1 : (2 : Int) ≤ s.size := by omega
  have b1' : 2 ≤ s.size := by omega
  have hw : IntKind.i64.wrap (n : Int) = n := by rw [IntKind.wrap_i64]; omega
  have hvn := h.n0 hx
  subst hvn
  have H0 : Hid (NamesAt w w B bm x (.slice none 0 0) vq []) := ⟨⟨by have := h.obj; rw [← hx]; exact this, OwnA.nil _ _ _, h.qids, fun _ => rfl, h.q0⟩, OwnA.nil _ _ _, fun k hk => (h.qids.lt k hk).2, Mod.refl _ _⟩
  clear h hb2
  go_enter Tryz.func77, Tryz.ntmps77
  unfold fname
  go_wp2_with fail
  refine (hT _).mono ?_
  rintro e w1 ⟨rfl, rfl⟩
  clear hT
  go_wp2
  go_loopw [6, 8, 9, 10, 11] (fun _ a i _ _ wr => ∃ (j p : Nat) (v : Value) (l : List ByteArray), j ≤ n ∧ a = .int .i64 p ∧ i = .int .i64 j ∧ p ≤ s.size ∧ Hid (l.length = j) ∧ Hid (NamesAt w wr B bm x v vq l) ∧ Hid (rdTexts n ⟨s, 2, 0⟩ [] = rdTexts (n - j) ⟨s, p, 0⟩ l)) (fun _ _ i _ _ _ => n - (intOf i).toNat)
  case atStart => exact ⟨0, 2, _, [], Nat.zero_le _, rfl, rfl, b1', by exact (rfl : ([] : List ByteArray).length = 0), H0.out, rfl⟩
  case round =>
    clear H0
    obtain ⟨j, p, v, l, hj, rfl, rfl, hp, HL, HA, HG⟩ := hrel
    by_cases hjn : j < n
    · have t2 : decide ((j : Int) < (n : Int)) = true := by simp; omega
      have t2' : decide (j < n) = true := by simp; omega
      have p1 : (p : Int) ≤ s.size := by omega
      have p0 : (0 : Int) ≤ (p : Int) := by omega
      have hF := fun U => front_any (s.extract p s.size) U (by rw [ByteArray.size_extract]; omega)
      have HS : Hid (rdTexts n ⟨s, 2, 0⟩ [] = rdTexts (n - (j + 1)) (Rd.text ⟨s, p, 0⟩).2 (l ++ [(Rd.text ⟨s, p, 0⟩).1])) := by
        show _ = _
        rw [HG.out, show n - j = (n - (j + 1)) + 1 from by omega]
        conv => lhs; unfold rdTexts
        rw [if_neg (by simp)]
      clear HG
      by_cases hft : (Rd.text ⟨s, p, 0⟩).2.f ≠ 0
      · have hfr := front_bad hp hft
        simp only [hfr] at hF
        have hr : readF x s .names = none := by
          rw [HR.out, HS.out, if_pos]
          exact fun e => hft (rdTexts_adv e)
        clear hfr HS HR hft
        go_wp2_with fail
        refine (hF _).mono ?_
        rintro e w1 ⟨rfl, rfl⟩
        go_wp2
        go_ret
        exact ⟨-1, rfl, HA.out.md, .inl ⟨hr, rfl⟩⟩
      · obtain ⟨k, hfr, hpk, hq⟩ := front_good hp (Decidable.not_not.1 hft)
        simp only [hfr] at hF
        rw [hq] at HS
        have HS := HS
        clear hfr hft hq
        generalize (Rd.text ⟨s, p, 0⟩).1 = t at *
        have t3 : decide ((k : Int) < 0) = false := by simp
        have c12 : wr.cell? ⟨bm, 12, none⟩ = some v := (cell_of HA.out.m.obj 12).trans rfl
        have f12 : wr.frozen? ⟨bm, 12, none⟩ = false := free_of HA.out.m.obj 12
        have HO : Hid (OwnA (wr.alloc (.cells #[.string t] 9)) w.heap.size 1 v l.length (l.map .string)) := HA.out.own.mod ((Mod.refl (fun _ => False) wr).alloc _) fun _ _ x => x
        have A2 := Lib.hid (src_str1 t wr)
        have A3 : Hid ((l.length + 1) * 16 ≤ 140737488355328) := by have := HL.out; show _ ≤ _; omega
        have A4 : Hid (l.length + 1 ≤ 9223372036854775807) := by have := HL.out; show _ ≤ _; omega
        have A5 : Hid (w.heap.size ≤ (wr.alloc (.cells #[.string t] 9)).heap.size) := by have := HA.out.md.size; show _ ≤ _; rw [World.size_alloc]; omega
        have hbl := lt_of HA.out.m.obj
        have i1 : (p : Int) + (k : Int) ≤ 65536 := by omega
        go_wp2_with (fail)
        refine (hF _).mono ?_
        rintro e w1 ⟨rfl, rfl⟩
        clear hF
        go_upto_region 16 with (fail)
        refine wp_region_lit ?_
        go_wp2_with (refine wpl_append rfl (.tmp 61) (.tmp 63) _ _ rfl w.heap.size 9 (.string { data := #[] }) 1 16 Tryz.underlying25 info_str rfl (by decide) v _ _ rfl HO.out _ _ _ rfl A2.out A3.out A4.out A5.out ?_)
        intro v' w3 hown' hgrow
        obtain ⟨g, cap, rfl⟩ := OwnA.succ hown'
        have hm3 := ((Mod.refl (fun k => some k = v.ownBlock) wr).alloc (.cells #[.string t] 9)).trans hgrow
        have c12 := (hm3.block bm hbl (fun e => by have := HA.out.own.lt bm e; omega)).trans HA.out.m.obj
        have c13 : w3.cell? ⟨bm, 12, none⟩ = some v := (cell_of c12 12).trans rfl
        have f13 : w3.frozen? ⟨bm, 12, none⟩ = false := free_of c12 12
        have HA2 := Lib.hid (HA.out.push hB hBw hm3 hown')
        clear c12 hm3 hown' hgrow
        go_wp2
        go_roundw
        case rel => exact ⟨j + 1, p + k, _, _, hjn, by go_num, by go_num, hpk, by show _ = _; rw [List.length_append]; exact congrArg (· + 1) HL.out, HA2.out, HS.out⟩
        case measure => simp [intOf]; omega
    · have t2 : decide ((j : Int) < (n : Int)) = false := by simp; omega
      have t2' : decide (j < n) = false := by simp; omega
      have hr : readF x s .names = some ({ x with names := l }, p) := by
        rw [HR.out, HG.out, show n - j = 0 from by omega]
        rfl
      clear HR HG
      go_wp2
      go_ret
      exact ⟨p, rfl, HA.out.md, .inr ⟨_, p, v, vq, hr, rfl, HA.out.m⟩⟩
theorem src_qid1 (q : Qd) (wr : World) : Src Tryz.prog 3 29 (.slice (some ⟨wr.heap.size, 0, none⟩) 1 1) 1 q.cells (wr.alloc (.cells #[.int .u8 q.t, .int .u32 q.v, .int .u64 q.p] 28)) :=
  Src.ofSlice _ Tryz.underlying29 _ _ _ _ rfl (new_cells wr q.cells _) (by intro u hu; simp only [Qd.cells, List.mem_cons, List.not_mem_nil, or_false] at hu; rcases hu with rfl | rfl | rfl <;> rfl)
structure QidsAt (W U : World) (B bm : Nat) (x : Msg) (vn vq : Value) (l : List Qd) : Prop where
  m : DMsg U B bm { x with qids := l } vn vq
  own : OwnA U W.heap.size 3 vq l.length (flatR Qd.cells l)
  nlt : ∀ k, some k = vn.ownBlock → k < W.heap.size
  md : Mod (· = bm) W U
theorem QidsAt.push {W U V : World} {B bm : Nat} {x : Msg} {vn vq v' : Value} {l : List Qd} {q : Qd} (h : QidsAt W U B bm x vn vq l) (hB : bm < B) (hBW : B ≤ W.heap.size) (hm : Mod (fun k => some k = vq.ownBlock) U V)
    (ho : OwnA V W.heap.size 3 v' (l.length + 1) (flatR Qd.cells l ++ q.cells)) : QidsAt W (V.setCell ⟨bm, 16, none⟩ v') B bm x vn v' (l ++ [q]) := by
  have hO : ∀ k, some k = vq.ownBlock → W.heap.size ≤ k := fun k hk => (h.own.lt k hk).1
  have hob := (hm.block bm (lt_of h.m.obj) (fun e => by have := hO bm e; omega)).trans h.m.obj
  have hs : Mod (· = bm) V (V.setCell ⟨bm, 16, none⟩ v') := Mod.set1 V bm 16 v'
  have hq : OwnA V B 1 vn x.names.length (x.names.map .string) := h.m.names.modB hm fun k hk e => by have := hO k e; have := h.nlt k hk; omega
  have hf : flatR Qd.cells l ++ q.cells = flatR Qd.cells (l ++ [q]) := by rw [flatR_append]; rfl
  have hw : OwnA (V.setCell ⟨bm, 16, none⟩ v') W.heap.size 3 v' (l ++ [q]).length (flatR Qd.cells (l ++ [q])) := by
    rw [List.length_append, ← hf]
    exact ho.mod hs fun k hk e => by omega
  exact ⟨⟨heap_set hob 16 v', hq.mod hs (fun k hk e => by omega), hw.mono hBW, h.m.n0, fun e => by simp at e⟩, hw, h.nlt, (h.md.trans' hm fun k hk e => by have := hO k e; omega).trans hs⟩
set_option maxHeartbeats 4000000 in
set_option maxRecDepth 100000 in
theorem rlist_qids (B bm : Nat) (x : Msg) (vn vq : Value) (s : ByteArray) (w : World) (h : DMsg w B bm x vn vq) (hB : bm < B) (hBw : B ≤ w.heap.size) (hx : x.qids = []) (hs : s.size ≤ 65536) :
    Calls Tryz.prog 77 #[.pointer (some ⟨bm, 0, none⟩), .string (fname .qids), .string s] w (RdPost w B bm x s .qids) := by
  by_cases hz : s.size < 2
  · have t1 : decide ((s.size : Int) < 2) = true := by simp; omega
    have hr := (readF_short (x := x) hz).2.1
    clear h
    go_enter Tryz.func77, Tryz.ntmps77
    unfold fname
    go_wp2
    go_ret
    exact ⟨-1, rfl, Mod.refl _ _, .inl ⟨hr, rfl⟩⟩
  have t1 : decide ((s.size : Int) < 2) = false := by simp; omega
  have HR := Lib.hid (readF_qids (x := x) (s := s) (by omega))
  have hT := fun U => read_any (s.extract 0 2) U (by rw [ByteArray.size_extract]; omega)
  have hlt := leNat_lt (s.extract 0 2).data.toList
  have hb2 : (s.extract 0 2).data.toList.length = 2 := by rw [bsize, ByteArray.size_extract]; omega
  rw [hb2] at hlt
  have hlt : leNat (s.extract 0 2).data.toList < 65536 := hlt
  generalize leNat (s.extract 0 2).data.toList = n at *
  have b1 : (2 : Int) ≤ s.size := by omega
  have b1' : 2 ≤ s.size := by omega
  have hw : IntKind.i64.wrap (n : Int) = n := by rw [IntKind.wrap_i64]; omega
  have hvq := h.q0 hx
  subst hvq
  have H0 : Hid (QidsAt w w B bm x vn (.slice none 0 0) []) := ⟨⟨by have := h.obj; rw [← hx]; exact this, h.names, OwnA.nil _ _ _, h.n0, fun _ => rfl⟩, OwnA.nil _ _ _, fun k hk => (h.names.lt k hk).2, Mod.refl _ _⟩
  clear h hb2
  go_enter Tryz.func77, Tryz.ntmps77
  unfold fname
  go_wp2_with fail
  refine (hT _).mono ?_
  rintro e w1 ⟨rfl, rfl⟩
  clear hT
  go_wp2
  go_loopw [6, 8, 9, 10, 11] (fun _ a i _ _ wr => ∃ (j p : Nat) (v : Value) (l : List Qd), j ≤ n ∧ a = .int .i64 p ∧ i = .int .i64 j ∧ p ≤ s.size ∧ Hid (l.length = j) ∧ Hid (QidsAt w wr B bm x vn v l) ∧ Hid (rdQids n ⟨s, 2, 0⟩ [] = rdQids (n - j) ⟨s, p, 0⟩ l)) (fun _ _ i _ _ _ => n - (intOf i).toNat)
  case atStart => exact ⟨0, 2, _, [], Nat.zero_le _, rfl, rfl, b1', by exact (rfl : ([] : List Qd).length = 0), H0.out, rfl⟩
  case round =>
    clear H0
    obtain ⟨j, p, v, l, hj, rfl, rfl, hp, HL, HA, HG⟩ := hrel
    by_cases hjn : j < n
    · have t2 : decide ((j : Int) < (n : Int)) = true := by simp; omega
      have t2' : decide (j < n) = true := by simp; omega
      have p0 : (0 : Int) ≤ (p : Int) := by omega
      have p9 : (p : Int) ≤ 65536 := by omega
      have HS : Hid (rdQids n ⟨s, 2, 0⟩ [] = rdQids (n - (j + 1)) (rdQid ⟨s, p, 0⟩).2 (l ++ [(rdQid ⟨s, p, 0⟩).1])) := by
        show _ = _
        rw [HG.out, show n - j = (n - (j + 1)) + 1 from by omega]
        conv => lhs; unfold rdQids
        rw [if_neg (by simp)]
      clear HG
      by_cases h13 : s.size < p + 13
      · have t3 : decide ((s.size : Int) < (p : Int) + 13) = true := by simp; omega
        have hr : readF x s .qids = none := by
          rw [HR.out, HS.out, if_pos]
          exact fun e => rdQid_no h13 (rdQids_adv e)
        clear HS HR h13
        go_wp2
        go_ret
        exact ⟨-1, rfl, HA.out.md, .inl ⟨hr, rfl⟩⟩
      · have t3 : decide ((s.size : Int) < (p : Int) + 13) = false := by simp; omega
        have b13 : p + 13 ≤ s.size := by omega
        have b13' : (p : Int) + 13 ≤ s.size := by omega
        have b14 : (p : Int) ≤ (p : Int) + 13 := by omega
        have e := rdQid_ok2 b13
        rw [e] at HS
        have hF := fun U => readQid_any (s.extract p (p + 13)) U (by rw [ByteArray.size_extract]; omega)
        clear e h13
        generalize leNat ((s.extract p (p + 13)).extract 0 1).data.toList = q1 at *
        generalize leNat ((s.extract p (p + 13)).extract 1 5).data.toList = q2 at *
        generalize leNat ((s.extract p (p + 13)).extract 5 13).data.toList = q3 at *
        obtain ⟨q, hq⟩ : ∃ q : Qd, Qd.mk q1 q2 q3 = q := ⟨_, rfl⟩
        have hF : ∀ U, Calls Tryz.prog 76 #[.string (s.extract p (p + 13))] U fun e w' => e = .returned (.agg #[.int .u8 q.t, .int .u32 q.v, .int .u64 q.p]) ∧ Mod (fun _ => False) U w' := by rw [← hq]; exact hF
        simp only [hq] at HS
        clear hq
        have c16 : wr.cell? ⟨bm, 16, none⟩ = some v := (cell_of HA.out.m.obj 16).trans rfl
        have c16 : wr.drew.cell? ⟨bm, 16, none⟩ = some v := c16
        have A3 : Hid ((l.length + 1) * 16 ≤ 140737488355328) := by have := HL.out; show _ ≤ _; omega
        have A4 : Hid (l.length + 1 ≤ 9223372036854775807) := by have := HL.out; show _ ≤ _; omega
        have hbl := lt_of HA.out.m.obj
        have b15 : (0 : Int) ≤ (p : Int) + 13 := by omega
        have eT : ((p : Int) + 13).toNat = p + 13 := by omega
        have eW : IntKind.i64.wrap ((p : Int) + 13) = p + 13 := by rw [IntKind.wrap_i64]; omega
        go_wp2
        refine wp_region_any (by kernel_rfl) ?_
        change wpAny _ _ _ _ _ _ _ (World.drew _)
        refine wpAny_take (i := 0) (v := ?_) rfl (by kernel_rfl) (by kernel_rfl) (by kernel_rfl) (fun _ _ _ h => h) (Or.inl ⟨by rfl, ?_⟩) ?_
        rotate_left
        · intro w; go_simp
          all_goals with_reducible rfl
        refine wpAny_take (i := 1) (v := ?_) rfl (by kernel_rfl) (by kernel_rfl) (by kernel_rfl) (fun _ _ _ h => h) (Or.inl ⟨by rfl, ?_⟩) ?_
        rotate_left
        · intro w; go_simp
          all_goals with_reducible rfl
        refine wpAny_take (i := 2) (v := ?_) rfl (by kernel_rfl) (by kernel_rfl) (by kernel_rfl) (fun _ _ _ h => h) (Or.inl ⟨by rfl, ?_⟩) ?_
        rotate_left
        · intro w; go_simp
          all_goals with_reducible rfl
        refine wpAny_take (i := 3) (v := ?_) rfl (by kernel_rfl) (by kernel_rfl) (by kernel_rfl) (fun _ _ _ h => h) (Or.inl ⟨by rfl, ?_⟩) ?_
        rotate_left
        · intro w; go_simp
          all_goals with_reducible rfl
        refine wpAny_take (i := 5) (v := ?_) rfl (by kernel_rfl) (by kernel_rfl) (by kernel_rfl) (fun _ _ _ h => h) (Or.inl ⟨by rfl, ?_⟩) ?_
        rotate_left
        · intro w; go_simp
          all_goals with_reducible rfl
        refine wpAny_take (i := 6) (v := ?_) rfl (by kernel_rfl) (by kernel_rfl) (by kernel_rfl) (fun _ _ _ h => h) (Or.inl ⟨by rfl, ?_⟩) ?_
        rotate_left
        · intro w; go_simp
          all_goals with_reducible rfl
        refine wpAny_take (i := 7) (v := ?_) rfl (by kernel_rfl) (by kernel_rfl) (by kernel_rfl) (fun _ _ _ h => h) (Or.inl ⟨by rfl, ?_⟩) ?_
        rotate_left
        · intro w; go_simp
          all_goals with_reducible rfl
        refine wpAny_take (i := 8) (v := ?_) rfl (by kernel_rfl) (by kernel_rfl) (by kernel_rfl) (fun _ _ _ h => h) (Or.inl ⟨by rfl, ?_⟩) ?_
        rotate_left
        · intro w; go_simp
          all_goals with_reducible rfl
        refine wpAny_take (i := 9) (v := ?_) rfl (by kernel_rfl) (by kernel_rfl) (by kernel_rfl) (fun _ _ _ h => h) (Or.inl ⟨by rfl, ?_⟩) ?_
        rotate_left
        · intro w; go_simp
          all_goals with_reducible rfl
        clear eT eW
        refine wpAny_ready (rs := [4, 10]) (by kernel_rfl) (by simp) ?_
        refine AllReady.cons rfl (fun K hK => ?_) ?_
        rotate_left
        refine AllReady.cons rfl (fun K hK => ?_) AllReady.nil
        · go_simp
          refine (hF _).mono ?_
          rintro e w1 ⟨rfl, m1⟩
          refine hK _ _ ?_
          clear hK K hF
          have c16 : w1.cell? ⟨bm, 16, none⟩ = some v := keepR m1 c16
          have c16b : (w1.alloc (.cells #[.int .u8 q.t, .int .u32 q.v, .int .u64 q.p] 28)).cell? ⟨bm, 16, none⟩ = some v := keepR ((Mod.refl _ w1).alloc _) c16
          have HO : Hid (OwnA (w1.alloc (.cells #[.int .u8 q.t, .int .u32 q.v, .int .u64 q.p] 28)) w.heap.size 3 v l.length (flatR Qd.cells l)) := HA.out.own.mod (Mod.alloc (Mod.ofDrew m1) _) fun _ _ x => x
          have A2 := Lib.hid (src_qid1 q w1)
          have A5 : Hid (w.heap.size ≤ (w1.alloc (.cells #[.int .u8 q.t, .int .u32 q.v, .int .u64 q.p] 28)).heap.size) := by have := HA.out.md.size; have := m1.size; show _ ≤ _; rw [World.size_alloc]; have e : wr.drew.heap.size = wr.heap.size := rfl; omega
          refine wpAny_ready (rs := [4, 11]) (by kernel_rfl) (by simp) ?_
          refine AllReady.cons rfl (fun K hK => ?_) ?_
          rotate_left
          refine AllReady.cons rfl (fun K hK => ?_) AllReady.nil
          · go_simp
            refine hK _ _ ?_
            clear hK K
            refine wpAny_ready (rs := [4]) (by kernel_rfl) (by simp) ?_
            refine AllReady.cons rfl (fun K hK => ?_) AllReady.nil
            go_simp
            refine hK _ _ ?_
            clear hK K
            refine wpAny_ready (rs := [12]) (by kernel_rfl) (by simp) ?_
            refine AllReady.cons rfl (fun K hK => ?_) AllReady.nil
            refine Eq.mpr (if_pos ?hwant) ?_
            case hwant => rfl
            refine op_append (.tmp 35) (.tmp 42) _ _ rfl w.heap.size 28 (.agg #[.int .u8 0, .int .u32 0, .int .u64 0]) 3 16 Tryz.underlying29 info_qid rfl (by decide) v _ _ rfl HO.out _ _ _ rfl A2.out A3.out A4.out A5.out ?_
            intro v' w3 hown' hgrow _
            obtain ⟨g, cap, rfl⟩ := OwnA.succ hown'
            have hm3 := ((Mod.mono (T := fun k => some k = v.ownBlock) (Mod.ofDrew m1) fun _ _ x => x.elim).alloc (.cells #[.int .u8 q.t, .int .u32 q.v, .int .u64 q.p] 28)).trans hgrow
            have c12 := (hm3.block bm hbl (fun e => by have := HA.out.own.lt bm e; omega)).trans HA.out.m.obj
            have c13 : w3.cell? ⟨bm, 16, none⟩ = some v := (cell_of c12 16).trans rfl
            have f13 : w3.frozen? ⟨bm, 16, none⟩ = false := free_of c12 16
            have HA2 := Lib.hid (HA.out.push hB hBw hm3 hown')
            clear c12 hm3 hown' hgrow
            refine hK _ _ ?_
            clear hK K
            refine wpAny_take (i := 13) (v := ?_) rfl (by kernel_rfl) (by kernel_rfl) (by kernel_rfl) (fun _ _ _ h => h) (Or.inl ⟨by rfl, ?_⟩) ?_
            rotate_left
            · intro w; go_simp
              all_goals with_reducible rfl
            refine wpAny_take (i := 14) (v := ?_) rfl (by kernel_rfl) (by kernel_rfl) (by kernel_rfl) (fun _ _ _ h => h) (Or.inl ⟨by rfl, ?_⟩) ?_
            rotate_left
            · intro w; go_simp
              all_goals with_reducible rfl
            refine wpAny_ready (rs := [15]) (by kernel_rfl) (by simp) ?_
            refine AllReady.cons rfl (fun K hK => ?_) AllReady.nil
            go_simp
            refine hK _ _ ?_
            clear hK K
            refine wpAny_done (by kernel_rfl) ?_ _
            go_wp2
            go_roundw
            case rel => exact ⟨j + 1, p + 13, _, _, hjn, by go_num, by go_num, b13, by show _ = _; rw [List.length_append]; exact congrArg (· + 1) HL.out, HA2.out, HS.out⟩
            case measure => simp [intOf]; omega
          · go_simp
            refine hK _ _ ?_
            clear hK K
            refine wpAny_ready (rs := [11]) (by kernel_rfl) (by simp) ?_
            refine AllReady.cons rfl (fun K hK => ?_) AllReady.nil
            go_simp
            refine hK _ _ ?_
            clear hK K
            refine wpAny_ready (rs := [12]) (by kernel_rfl) (by simp) ?_
            refine AllReady.cons rfl (fun K hK => ?_) AllReady.nil
            refine Eq.mpr (if_pos ?hwant) ?_
            case hwant => rfl
            refine op_append (.tmp 35) (.tmp 42) _ _ rfl w.heap.size 28 (.agg #[.int .u8 0, .int .u32 0, .int .u64 0]) 3 16 Tryz.underlying29 info_qid rfl (by decide) v _ _ rfl HO.out _ _ _ rfl A2.out A3.out A4.out A5.out ?_
            intro v' w3 hown' hgrow _
            obtain ⟨g, cap, rfl⟩ := OwnA.succ hown'
            have hm3 := ((Mod.mono (T := fun k => some k = v.ownBlock) (Mod.ofDrew m1) fun _ _ x => x.elim).alloc (.cells #[.int .u8 q.t, .int .u32 q.v, .int .u64 q.p] 28)).trans hgrow
            have c12 := (hm3.block bm hbl (fun e => by have := HA.out.own.lt bm e; omega)).trans HA.out.m.obj
            have c13 : w3.cell? ⟨bm, 16, none⟩ = some v := (cell_of c12 16).trans rfl
            have f13 : w3.frozen? ⟨bm, 16, none⟩ = false := free_of c12 16
            have HA2 := Lib.hid (HA.out.push hB hBw hm3 hown')
            clear c12 hm3 hown' hgrow
            refine hK _ _ ?_
            clear hK K
            refine wpAny_take (i := 13) (v := ?_) rfl (by kernel_rfl) (by kernel_rfl) (by kernel_rfl) (fun _ _ _ h => h) (Or.inl ⟨by rfl, ?_⟩) ?_
            rotate_left
            · intro w; go_simp
              all_goals with_reducible rfl
            refine wpAny_take (i := 14) (v := ?_) rfl (by kernel_rfl) (by kernel_rfl) (by kernel_rfl) (fun _ _ _ h => h) (Or.inl ⟨by rfl, ?_⟩) ?_
            rotate_left
            · intro w; go_simp
              all_goals with_reducible rfl
            refine wpAny_ready (rs := [15]) (by kernel_rfl) (by simp) ?_
            refine AllReady.cons rfl (fun K hK => ?_) AllReady.nil
            go_simp
            refine hK _ _ ?_
            clear hK K
            refine wpAny_done (by kernel_rfl) ?_ _
            go_wp2
            go_roundw
            case rel => exact ⟨j + 1, p + 13, _, _, hjn, by go_num, by go_num, b13, by show _ = _; rw [List.length_append]; exact congrArg (· + 1) HL.out, HA2.out, HS.out⟩
            case measure => simp [intOf]; omega
        · go_simp
          refine hK _ _ ?_
          clear hK K
          refine wpAny_ready (rs := [10]) (by kernel_rfl) (by simp) ?_
          refine AllReady.cons rfl (fun K hK => ?_) AllReady.nil
          go_simp
          refine (hF _).mono ?_
          rintro e w1 ⟨rfl, m1⟩
          refine hK _ _ ?_
          clear hK K hF
          have c16 : w1.cell? ⟨bm, 16, none⟩ = some v := keepR m1 c16
          have c16b : (w1.alloc (.cells #[.int .u8 q.t, .int .u32 q.v, .int .u64 q.p] 28)).cell? ⟨bm, 16, none⟩ = some v := keepR ((Mod.refl _ w1).alloc _) c16
          have HO : Hid (OwnA (w1.alloc (.cells #[.int .u8 q.t, .int .u32 q.v, .int .u64 q.p] 28)) w.heap.size 3 v l.length (flatR Qd.cells l)) := HA.out.own.mod (Mod.alloc (Mod.ofDrew m1) _) fun _ _ x => x
          have A2 := Lib.hid (src_qid1 q w1)
          have A5 : Hid (w.heap.size ≤ (w1.alloc (.cells #[.int .u8 q.t, .int .u32 q.v, .int .u64 q.p] 28)).heap.size) := by have := HA.out.md.size; have := m1.size; show _ ≤ _; rw [World.size_alloc]; have e : wr.drew.heap.size = wr.heap.size := rfl; omega
          refine wpAny_ready (rs := [11]) (by kernel_rfl) (by simp) ?_
          refine AllReady.cons rfl (fun K hK => ?_) AllReady.nil
          go_simp
          refine hK _ _ ?_
          clear hK K
          refine wpAny_ready (rs := [12]) (by kernel_rfl) (by simp) ?_
          refine AllReady.cons rfl (fun K hK => ?_) AllReady.nil
          refine Eq.mpr (if_pos ?hwant) ?_
          case hwant => rfl
          refine op_append (.tmp 35) (.tmp 42) _ _ rfl w.heap.size 28 (.agg #[.int .u8 0, .int .u32 0, .int .u64 0]) 3 16 Tryz.underlying29 info_qid rfl (by decide) v _ _ rfl HO.out _ _ _ rfl A2.out A3.out A4.out A5.out ?_
          intro v' w3 hown' hgrow _
          obtain ⟨g, cap, rfl⟩ := OwnA.succ hown'
          have hm3 := ((Mod.mono (T := fun k => some k = v.ownBlock) (Mod.ofDrew m1) fun _ _ x => x.elim).alloc (.cells #[.int .u8 q.t, .int .u32 q.v, .int .u64 q.p] 28)).trans hgrow
          have c12 := (hm3.block bm hbl (fun e => by have := HA.out.own.lt bm e; omega)).trans HA.out.m.obj
          have c13 : w3.cell? ⟨bm, 16, none⟩ = some v := (cell_of c12 16).trans rfl
          have f13 : w3.frozen? ⟨bm, 16, none⟩ = false := free_of c12 16
          have HA2 := Lib.hid (HA.out.push hB hBw hm3 hown')
          clear c12 hm3 hown' hgrow
          refine hK _ _ ?_
          clear hK K
          refine wpAny_take (i := 13) (v := ?_) rfl (by kernel_rfl) (by kernel_rfl) (by kernel_rfl) (fun _ _ _ h => h) (Or.inl ⟨by rfl, ?_⟩) ?_
          rotate_left
          · intro w; go_simp
            all_goals with_reducible rfl
          refine wpAny_take (i := 14) (v := ?_) rfl (by kernel_rfl) (by kernel_rfl) (by kernel_rfl) (fun _ _ _ h => h) (Or.inl ⟨by rfl, ?_⟩) ?_
          rotate_left
          · intro w; go_simp
            all_goals with_reducible rfl
          refine wpAny_ready (rs := [15]) (by kernel_rfl) (by simp) ?_
          refine AllReady.cons rfl (fun K hK => ?_) AllReady.nil
          go_simp
          refine hK _ _ ?_
          clear hK K
          refine wpAny_done (by kernel_rfl) ?_ _
          go_wp2
          go_roundw
          case rel => exact ⟨j + 1, p + 13, _, _, hjn, by go_num, by go_num, b13, by show _ = _; rw [List.length_append]; exact congrArg (· + 1) HL.out, HA2.out, HS.out⟩
          case measure => simp [intOf]; omega
    · have t2 : decide ((j : Int) < (n : Int)) = false := by simp; omega
      have t2' : decide (j < n) = false := by simp; omega
      have hr : readF x s .qids = some ({ x with qids := l }, p) := by
        rw [HR.out, HG.out, show n - j = 0 from by omega]
        rfl
      clear HR HG
      go_wp2
      go_ret
      exact ⟨p, rfl, HA.out.md, .inr ⟨_, p, vn, v, hr, rfl, HA.out.m⟩⟩
end Go.Proofs.YtklpopmjpgdjnaaGreatDoor
