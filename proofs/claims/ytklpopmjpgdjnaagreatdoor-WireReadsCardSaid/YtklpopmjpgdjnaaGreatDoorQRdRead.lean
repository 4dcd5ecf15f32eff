/- The document's read: a field off the front of bytes. -/
import Derived.Test.YtklpopmjpgdjnaaGreatDoorQGr
import Derived.Test.YtklpopmjpgdjnaaGreatDoorQStatRDec
import Derived.Test.YtklpopmjpgdjnaaGreatDoorQPenR3
set_option linter.unusedVariables false
set_option linter.unusedSimpArgs false
namespace Go.Proofs.YtklpopmjpgdjnaaGreatDoor
open Go.RowKit

set_option maxHeartbeats 2000000 in
set_option maxRecDepth 100000 in
theorem read_msize (B bm : Nat) (x : Msg) (vn vq : Value) (s : ByteArray) (w : World) (h : DMsg w B bm x vn vq) (hB : bm < B) (hBw : B ≤ w.heap.size) (hs : s.size ≤ 65536) (hx : Fld.msize = .names → x.names = []) (hy : Fld.msize = .qids → x.qids = []) :
    Calls Tryz.prog 35 #[.pointer (some ⟨bm, 0, none⟩), .string (fname .msize), .string s] w (RdPost w B bm x s .msize) := by
  have hW := fun U => width_msize U
  by_cases hz : s.size < 4
  · have t1 : decide ((s.size : Int) < 4) = true := by simp; omega
    have hr : readF x s .msize = none := if_pos (.inl (num0_no hz))
    clear h
    go_enter Tryz.func35, Tryz.ntmps35
    go_wp2_with fail
    refine (hW _).mono ?_
    rintro e w1 ⟨rfl, rfl⟩
    clear hW
    go_wp2
    go_ret
    exact ⟨-1, rfl, Mod.refl _ _, .inl ⟨hr, rfl⟩⟩
  · have t1 : decide ((s.size : Int) < 4) = false := by simp; omega
    have hr : readF x s .msize = some ({ x with msize := leNat (s.extract 0 4).data.toList }, 4) := by
      have e := num0_ok (s := s) (k := 4) (by omega)
      rw [readF_of (lg := false) (y := { x with msize := (Rd.num ⟨s, 0, 0⟩ 4).1 }) (q := (Rd.num ⟨s, 0, 0⟩ 4).2) rfl, e]
      rfl
    have hT := fun U => read_any (s.extract 0 4) U (by rw [ByteArray.size_extract]; omega)
    have hlt := leNat_lt (s.extract 0 4).data.toList
    have hb2 : (s.extract 0 4).data.toList.length = 4 := by rw [bsize, ByteArray.size_extract]; omega
    rw [hb2] at hlt
    have hlt : leNat (s.extract 0 4).data.toList < 4294967296 := hlt
    generalize leNat (s.extract 0 4).data.toList = n at *
    have hN := fun U hU => number_msize bm n x vn vq U hU hlt
    have b1 : (4 : Int) ≤ s.size := by omega
    have b1' : 4 ≤ s.size := by omega
    have H := Lib.hid h
    clear h hz hb2
    go_enter Tryz.func35, Tryz.ntmps35
    go_wp2_with fail
    refine (hW _).mono ?_
    rintro e w1 ⟨rfl, rfl⟩
    clear hW
    go_wp2_with fail
    refine (hT _).mono ?_
    rintro e w1 ⟨rfl, rfl⟩
    go_wp2_with fail
    refine (hN _ H.out.obj).mono ?_
    rintro e w2 ⟨rfl, ho, hm⟩
    have HE := Lib.hid (H.out.put (y := { x with msize := n }) hB hm ho rfl rfl)
    have HM := Lib.hid hm
    clear ho hm hN hT
    go_wp2
    go_ret
    exact ⟨4, rfl, HM.out, .inr ⟨_, 4, vn, vq, hr, rfl, HE.out⟩⟩
set_option maxHeartbeats 2000000 in
set_option maxRecDepth 100000 in
theorem read_fid (B bm : Nat) (x : Msg) (vn vq : Value) (s : ByteArray) (w : World) (h : DMsg w B bm x vn vq) (hB : bm < B) (hBw : B ≤ w.heap.size) (hs : s.size ≤ 65536) (hx : Fld.fid = .names → x.names = []) (hy : Fld.fid = .qids → x.qids = []) :
    Calls Tryz.prog 35 #[.pointer (some ⟨bm, 0, none⟩), .string (fname .fid), .string s] w (RdPost w B bm x s .fid) := by
  have hW := fun U => width_fid U
  by_cases hz : s.size < 4
  · have t1 : decide ((s.size : Int) < 4) = true := by simp; omega
    have hr : readF x s .fid = none := if_pos (.inl (num0_no hz))
    clear h
    go_enter Tryz.func35, Tryz.ntmps35
    go_wp2_with fail
    refine (hW _).mono ?_
    rintro e w1 ⟨rfl, rfl⟩
    clear hW
    go_wp2
    go_ret
    exact ⟨-1, rfl, Mod.refl _ _, .inl ⟨hr, rfl⟩⟩
  · have t1 : decide ((s.size : Int) < 4) = false := by simp; omega
    have hr : readF x s .fid = some ({ x with fid := leNat (s.extract 0 4).data.toList }, 4) := by
      have e := num0_ok (s := s) (k := 4) (by omega)
      rw [readF_of (lg := false) (y := { x with fid := (Rd.num ⟨s, 0, 0⟩ 4).1 }) (q := (Rd.num ⟨s, 0, 0⟩ 4).2) rfl, e]
      rfl
    have hT := fun U => read_any (s.extract 0 4) U (by rw [ByteArray.size_extract]; omega)
    have hlt := leNat_lt (s.extract 0 4).data.toList
    have hb2 : (s.extract 0 4).data.toList.length = 4 := by rw [bsize, ByteArray.size_extract]; omega
    rw [hb2] at hlt
    have hlt : leNat (s.extract 0 4).data.toList < 4294967296 := hlt
    generalize leNat (s.extract 0 4).data.toList = n at *
    have hN := fun U hU => number_fid bm n x vn vq U hU hlt
    have b1 : (4 : Int) ≤ s.size := by omega
    have b1' : 4 ≤ s.size := by omega
    have H := Lib.hid h
    clear h hz hb2
    go_enter Tryz.func35, Tryz.ntmps35
    go_wp2_with fail
    refine (hW _).mono ?_
    rintro e w1 ⟨rfl, rfl⟩
    clear hW
    go_wp2_with fail
    refine (hT _).mono ?_
    rintro e w1 ⟨rfl, rfl⟩
    go_wp2_with fail
    refine (hN _ H.out.obj).mono ?_
    rintro e w2 ⟨rfl, ho, hm⟩
    have HE := Lib.hid (H.out.put (y := { x with fid := n }) hB hm ho rfl rfl)
    have HM := Lib.hid hm
    clear ho hm hN hT
    go_wp2
    go_ret
    exact ⟨4, rfl, HM.out, .inr ⟨_, 4, vn, vq, hr, rfl, HE.out⟩⟩
set_option maxHeartbeats 2000000 in
set_option maxRecDepth 100000 in
theorem read_afid (B bm : Nat) (x : Msg) (vn vq : Value) (s : ByteArray) (w : World) (h : DMsg w B bm x vn vq) (hB : bm < B) (hBw : B ≤ w.heap.size) (hs : s.size ≤ 65536) (hx : Fld.afid = .names → x.names = []) (hy : Fld.afid = .qids → x.qids = []) :
    Calls Tryz.prog 35 #[.pointer (some ⟨bm, 0, none⟩), .string (fname .afid), .string s] w (RdPost w B bm x s .afid) := by
  have hW := fun U => width_afid U
  by_cases hz : s.size < 4
  · have t1 : decide ((s.size : Int) < 4) = true := by simp; omega
    have hr : readF x s .afid = none := if_pos (.inl (num0_no hz))
    clear h
    go_enter Tryz.func35, Tryz.ntmps35
    go_wp2_with fail
    refine (hW _).mono ?_
    rintro e w1 ⟨rfl, rfl⟩
    clear hW
    go_wp2
    go_ret
    exact ⟨-1, rfl, Mod.refl _ _, .inl ⟨hr, rfl⟩⟩
  · have t1 : decide ((s.size : Int) < 4) = false := by simp; omega
    have hr : readF x s .afid = some ({ x with afid := leNat (s.extract 0 4).data.toList }, 4) := by
      have e := num0_ok (s := s) (k := 4) (by omega)
      rw [readF_of (lg := false) (y := { x with afid := (Rd.num ⟨s, 0, 0⟩ 4).1 }) (q := (Rd.num ⟨s, 0, 0⟩ 4).2) rfl, e]
      rfl
    have hT := fun U => read_any (s.extract 0 4) U (by rw [ByteArray.size_extract]; omega)
    have hlt := leNat_lt (s.extract 0 4).data.toList
    have hb2 : (s.extract 0 4).data.toList.length = 4 := by rw [bsize, ByteArray.size_extract]; omega
    rw [hb2] at hlt
    have hlt : leNat (s.extract 0 4).data.toList < 4294967296 := hlt
    generalize leNat (s.extract 0 4).data.toList = n at *
    have hN := fun U hU => number_afid bm n x vn vq U hU hlt
    have b1 : (4 : Int) ≤ s.size := by omega
    have b1' : 4 ≤ s.size := by omega
    have H := Lib.hid h
    clear h hz hb2
    go_enter Tryz.func35, Tryz.ntmps35
    go_wp2_with fail
    refine (hW _).mono ?_
    rintro e w1 ⟨rfl, rfl⟩
    clear hW
    go_wp2_with fail
    refine (hT _).mono ?_
    rintro e w1 ⟨rfl, rfl⟩
    go_wp2_with fail
    refine (hN _ H.out.obj).mono ?_
    rintro e w2 ⟨rfl, ho, hm⟩
    have HE := Lib.hid (H.out.put (y := { x with afid := n }) hB hm ho rfl rfl)
    have HM := Lib.hid hm
    clear ho hm hN hT
    go_wp2
    go_ret
    exact ⟨4, rfl, HM.out, .inr ⟨_, 4, vn, vq, hr, rfl, HE.out⟩⟩
set_option maxHeartbeats 2000000 in
set_option maxRecDepth 100000 in
theorem read_newfid (B bm : Nat) (x : Msg) (vn vq : Value) (s : ByteArray) (w : World) (h : DMsg w B bm x vn vq) (hB : bm < B) (hBw : B ≤ w.heap.size) (hs : s.size ≤ 65536) (hx : Fld.newfid = .names → x.names = []) (hy : Fld.newfid = .qids → x.qids = []) :
    Calls Tryz.prog 35 #[.pointer (some ⟨bm, 0, none⟩), .string (fname .newfid), .string s] w (RdPost w B bm x s .newfid) := by
  have hW := fun U => width_newfid U
  by_cases hz : s.size < 4
  · have t1 : decide ((s.size : Int) < 4) = true := by simp; omega
    have hr : readF x s .newfid = none := if_pos (.inl (num0_no hz))
    clear h
    go_enter Tryz.func35, Tryz.ntmps35
    go_wp2_with fail
    refine (hW _).mono ?_
    rintro e w1 ⟨rfl, rfl⟩
    clear hW
    go_wp2
    go_ret
    exact ⟨-1, rfl, Mod.refl _ _, .inl ⟨hr, rfl⟩⟩
  · have t1 : decide ((s.size : Int) < 4) = false := by simp; omega
    have hr : readF x s .newfid = some ({ x with newfid := leNat (s.extract 0 4).data.toList }, 4) := by
      have e := num0_ok (s := s) (k := 4) (by omega)
      rw [readF_of (lg := false) (y := { x with newfid := (Rd.num ⟨s, 0, 0⟩ 4).1 }) (q := (Rd.num ⟨s, 0, 0⟩ 4).2) rfl, e]
      rfl
    have hT := fun U => read_any (s.extract 0 4) U (by rw [ByteArray.size_extract]; omega)
    have hlt := leNat_lt (s.extract 0 4).data.toList
    have hb2 : (s.extract 0 4).data.toList.length = 4 := by rw [bsize, ByteArray.size_extract]; omega
    rw [hb2] at hlt
    have hlt : leNat (s.extract 0 4).data.toList < 4294967296 := hlt
    generalize leNat (s.extract 0 4).data.toList = n at *
    have hN := fun U hU => number_newfid bm n x vn vq U hU hlt
    have b1 : (4 : Int) ≤ s.size := by omega
    have b1' : 4 ≤ s.size := by omega
    have H := Lib.hid h
    clear h hz hb2
    go_enter Tryz.func35, Tryz.ntmps35
    go_wp2_with fail
    refine (hW _).mono ?_
    rintro e w1 ⟨rfl, rfl⟩
    clear hW
    go_wp2_with fail
    refine (hT _).mono ?_
    rintro e w1 ⟨rfl, rfl⟩
    go_wp2_with fail
    refine (hN _ H.out.obj).mono ?_
    rintro e w2 ⟨rfl, ho, hm⟩
    have HE := Lib.hid (H.out.put (y := { x with newfid := n }) hB hm ho rfl rfl)
    have HM := Lib.hid hm
    clear ho hm hN hT
    go_wp2
    go_ret
    exact ⟨4, rfl, HM.out, .inr ⟨_, 4, vn, vq, hr, rfl, HE.out⟩⟩
set_option maxHeartbeats 2000000 in
set_option maxRecDepth 100000 in
theorem read_oldtag (B bm : Nat) (x : Msg) (vn vq : Value) (s : ByteArray) (w : World) (h : DMsg w B bm x vn vq) (hB : bm < B) (hBw : B ≤ w.heap.size) (hs : s.size ≤ 65536) (hx : Fld.oldtag = .names → x.names = []) (hy : Fld.oldtag = .qids → x.qids = []) :
    Calls Tryz.prog 35 #[.pointer (some ⟨bm, 0, none⟩), .string (fname .oldtag), .string s] w (RdPost w B bm x s .oldtag) := by
  have hW := fun U => width_oldtag U
  by_cases hz : s.size < 2
  · have t1 : decide ((s.size : Int) < 2) = true := by simp; omega
    have hr : readF x s .oldtag = none := if_pos (.inl (num0_no hz))
    clear h
    go_enter Tryz.func35, Tryz.ntmps35
    go_wp2_with fail
    refine (hW _).mono ?_
    rintro e w1 ⟨rfl, rfl⟩
    clear hW
    go_wp2
    go_ret
    exact ⟨-1, rfl, Mod.refl _ _, .inl ⟨hr, rfl⟩⟩
  · have t1 : decide ((s.size : Int) < 2) = false := by simp; omega
    have hr : readF x s .oldtag = some ({ x with oldtag := leNat (s.extract 0 2).data.toList }, 2) := by
      have e := num0_ok (s := s) (k := 2) (by omega)
      rw [readF_of (lg := false) (y := { x with oldtag := (Rd.num ⟨s, 0, 0⟩ 2).1 }) (q := (Rd.num ⟨s, 0, 0⟩ 2).2) rfl, e]
      rfl
    have hT := fun U => read_any (s.extract 0 2) U (by rw [ByteArray.size_extract]; omega)
    have hlt := leNat_lt (s.extract 0 2).data.toList
    have hb2 : (s.extract 0 2).data.toList.length = 2 := by rw [bsize, ByteArray.size_extract]; omega
    rw [hb2] at hlt
    have hlt : leNat (s.extract 0 2).data.toList < 65536 := hlt
    generalize leNat (s.extract 0 2).data.toList = n at *
    have hN := fun U hU => number_oldtag bm n x vn vq U hU hlt
    have b1 : (2 : Int) ≤ s.size := by omega
    have b1' : 2 ≤ s.size := by omega
    have H := Lib.hid h
    clear h hz hb2
    go_enter Tryz.func35, Tryz.ntmps35
    go_wp2_with fail
    refine (hW _).mono ?_
    rintro e w1 ⟨rfl, rfl⟩
    clear hW
    go_wp2_with fail
    refine (hT _).mono ?_
    rintro e w1 ⟨rfl, rfl⟩
    go_wp2_with fail
    refine (hN _ H.out.obj).mono ?_
    rintro e w2 ⟨rfl, ho, hm⟩
    have HE := Lib.hid (H.out.put (y := { x with oldtag := n }) hB hm ho rfl rfl)
    have HM := Lib.hid hm
    clear ho hm hN hT
    go_wp2
    go_ret
    exact ⟨2, rfl, HM.out, .inr ⟨_, 2, vn, vq, hr, rfl, HE.out⟩⟩
set_option maxHeartbeats 2000000 in
set_option maxRecDepth 100000 in
theorem read_mode (B bm : Nat) (x : Msg) (vn vq : Value) (s : ByteArray) (w : World) (h : DMsg w B bm x vn vq) (hB : bm < B) (hBw : B ≤ w.heap.size) (hs : s.size ≤ 65536) (hx : Fld.mode = .names → x.names = []) (hy : Fld.mode = .qids → x.qids = []) :
    Calls Tryz.prog 35 #[.pointer (some ⟨bm, 0, none⟩), .string (fname .mode), .string s] w (RdPost w B bm x s .mode) := by
  have hW := fun U => width_mode U
  by_cases hz : s.size < 1
  · have t1 : decide ((s.size : Int) < 1) = true := by simp; omega
    have hr : readF x s .mode = none := if_pos (.inl (num0_no hz))
    clear h
    go_enter Tryz.func35, Tryz.ntmps35
    go_wp2_with fail
    refine (hW _).mono ?_
    rintro e w1 ⟨rfl, rfl⟩
    clear hW
    go_wp2
    go_ret
    exact ⟨-1, rfl, Mod.refl _ _, .inl ⟨hr, rfl⟩⟩
  · have t1 : decide ((s.size : Int) < 1) = false := by simp; omega
    have hr : readF x s .mode = some ({ x with mode := leNat (s.extract 0 1).data.toList }, 1) := by
      have e := num0_ok (s := s) (k := 1) (by omega)
      rw [readF_of (lg := false) (y := { x with mode := (Rd.num ⟨s, 0, 0⟩ 1).1 }) (q := (Rd.num ⟨s, 0, 0⟩ 1).2) rfl, e]
      rfl
    have hT := fun U => read_any (s.extract 0 1) U (by rw [ByteArray.size_extract]; omega)
    have hlt := leNat_lt (s.extract 0 1).data.toList
    have hb2 : (s.extract 0 1).data.toList.length = 1 := by rw [bsize, ByteArray.size_extract]; omega
    rw [hb2] at hlt
    have hlt : leNat (s.extract 0 1).data.toList < 256 := hlt
    generalize leNat (s.extract 0 1).data.toList = n at *
    have hN := fun U hU => number_mode bm n x vn vq U hU hlt
    have b1 : (1 : Int) ≤ s.size := by omega
    have b1' : 1 ≤ s.size := by omega
    have H := Lib.hid h
    clear h hz hb2
    go_enter Tryz.func35, Tryz.ntmps35
    go_wp2_with fail
    refine (hW _).mono ?_
    rintro e w1 ⟨rfl, rfl⟩
    clear hW
    go_wp2_with fail
    refine (hT _).mono ?_
    rintro e w1 ⟨rfl, rfl⟩
    go_wp2_with fail
    refine (hN _ H.out.obj).mono ?_
    rintro e w2 ⟨rfl, ho, hm⟩
    have HE := Lib.hid (H.out.put (y := { x with mode := n }) hB hm ho rfl rfl)
    have HM := Lib.hid hm
    clear ho hm hN hT
    go_wp2
    go_ret
    exact ⟨1, rfl, HM.out, .inr ⟨_, 1, vn, vq, hr, rfl, HE.out⟩⟩
set_option maxHeartbeats 2000000 in
set_option maxRecDepth 100000 in
theorem read_perm (B bm : Nat) (x : Msg) (vn vq : Value) (s : ByteArray) (w : World) (h : DMsg w B bm x vn vq) (hB : bm < B) (hBw : B ≤ w.heap.size) (hs : s.size ≤ 65536) (hx : Fld.perm = .names → x.names = []) (hy : Fld.perm = .qids → x.qids = []) :
    Calls Tryz.prog 35 #[.pointer (some ⟨bm, 0, none⟩), .string (fname .perm), .string s] w (RdPost w B bm x s .perm) := by
  have hW := fun U => width_perm U
  by_cases hz : s.size < 4
  · have t1 : decide ((s.size : Int) < 4) = true := by simp; omega
    have hr : readF x s .perm = none := if_pos (.inl (num0_no hz))
    clear h
    go_enter Tryz.func35, Tryz.ntmps35
    go_wp2_with fail
    refine (hW _).mono ?_
    rintro e w1 ⟨rfl, rfl⟩
    clear hW
    go_wp2
    go_ret
    exact ⟨-1, rfl, Mod.refl _ _, .inl ⟨hr, rfl⟩⟩
  · have t1 : decide ((s.size : Int) < 4) = false := by simp; omega
    have hr : readF x s .perm = some ({ x with perm := leNat (s.extract 0 4).data.toList }, 4) := by
      have e := num0_ok (s := s) (k := 4) (by omega)
      rw [readF_of (lg := false) (y := { x with perm := (Rd.num ⟨s, 0, 0⟩ 4).1 }) (q := (Rd.num ⟨s, 0, 0⟩ 4).2) rfl, e]
      rfl
    have hT := fun U => read_any (s.extract 0 4) U (by rw [ByteArray.size_extract]; omega)
    have hlt := leNat_lt (s.extract 0 4).data.toList
    have hb2 : (s.extract 0 4).data.toList.length = 4 := by rw [bsize, ByteArray.size_extract]; omega
    rw [hb2] at hlt
    have hlt : leNat (s.extract 0 4).data.toList < 4294967296 := hlt
    generalize leNat (s.extract 0 4).data.toList = n at *
    have hN := fun U hU => number_perm bm n x vn vq U hU hlt
    have b1 : (4 : Int) ≤ s.size := by omega
    have b1' : 4 ≤ s.size := by omega
    have H := Lib.hid h
    clear h hz hb2
    go_enter Tryz.func35, Tryz.ntmps35
    go_wp2_with fail
    refine (hW _).mono ?_
    rintro e w1 ⟨rfl, rfl⟩
    clear hW
    go_wp2_with fail
    refine (hT _).mono ?_
    rintro e w1 ⟨rfl, rfl⟩
    go_wp2_with fail
    refine (hN _ H.out.obj).mono ?_
    rintro e w2 ⟨rfl, ho, hm⟩
    have HE := Lib.hid (H.out.put (y := { x with perm := n }) hB hm ho rfl rfl)
    have HM := Lib.hid hm
    clear ho hm hN hT
    go_wp2
    go_ret
    exact ⟨4, rfl, HM.out, .inr ⟨_, 4, vn, vq, hr, rfl, HE.out⟩⟩
set_option maxHeartbeats 2000000 in
set_option maxRecDepth 100000 in
theorem read_iounit (B bm : Nat) (x : Msg) (vn vq : Value) (s : ByteArray) (w : World) (h : DMsg w B bm x vn vq) (hB : bm < B) (hBw : B ≤ w.heap.size) (hs : s.size ≤ 65536) (hx : Fld.iounit = .names → x.names = []) (hy : Fld.iounit = .qids → x.qids = []) :
    Calls Tryz.prog 35 #[.pointer (some ⟨bm, 0, none⟩), .string (fname .iounit), .string s] w (RdPost w B bm x s .iounit) := by
  have hW := fun U => width_iounit U
  by_cases hz : s.size < 4
  · have t1 : decide ((s.size : Int) < 4) = true := by simp; omega
    have hr : readF x s .iounit = none := if_pos (.inl (num0_no hz))
    clear h
    go_enter Tryz.func35, Tryz.ntmps35
    go_wp2_with fail
    refine (hW _).mono ?_
    rintro e w1 ⟨rfl, rfl⟩
    clear hW
    go_wp2
    go_ret
    exact ⟨-1, rfl, Mod.refl _ _, .inl ⟨hr, rfl⟩⟩
  · have t1 : decide ((s.size : Int) < 4) = false := by simp; omega
    have hr : readF x s .iounit = some ({ x with iounit := leNat (s.extract 0 4).data.toList }, 4) := by
      have e := num0_ok (s := s) (k := 4) (by omega)
      rw [readF_of (lg := false) (y := { x with iounit := (Rd.num ⟨s, 0, 0⟩ 4).1 }) (q := (Rd.num ⟨s, 0, 0⟩ 4).2) rfl, e]
      rfl
    have hT := fun U => read_any (s.extract 0 4) U (by rw [ByteArray.size_extract]; omega)
    have hlt := leNat_lt (s.extract 0 4).data.toList
    have hb2 : (s.extract 0 4).data.toList.length = 4 := by rw [bsize, ByteArray.size_extract]; omega
    rw [hb2] at hlt
    have hlt : leNat (s.extract 0 4).data.toList < 4294967296 := hlt
    generalize leNat (s.extract 0 4).data.toList = n at *
    have hN := fun U hU => number_iounit bm n x vn vq U hU hlt
    have b1 : (4 : Int) ≤ s.size := by omega
    have b1' : 4 ≤ s.size := by omega
    have H := Lib.hid h
    clear h hz hb2
    go_enter Tryz.func35, Tryz.ntmps35
    go_wp2_with fail
    refine (hW _).mono ?_
    rintro e w1 ⟨rfl, rfl⟩
    clear hW
    go_wp2_with fail
    refine (hT _).mono ?_
    rintro e w1 ⟨rfl, rfl⟩
    go_wp2_with fail
    refine (hN _ H.out.obj).mono ?_
    rintro e w2 ⟨rfl, ho, hm⟩
    have HE := Lib.hid (H.out.put (y := { x with iounit := n }) hB hm ho rfl rfl)
    have HM := Lib.hid hm
    clear ho hm hN hT
    go_wp2
    go_ret
    exact ⟨4, rfl, HM.out, .inr ⟨_, 4, vn, vq, hr, rfl, HE.out⟩⟩
set_option maxHeartbeats 2000000 in
set_option maxRecDepth 100000 in
theorem read_offset (B bm : Nat) (x : Msg) (vn vq : Value) (s : ByteArray) (w : World) (h : DMsg w B bm x vn vq) (hB : bm < B) (hBw : B ≤ w.heap.size) (hs : s.size ≤ 65536) (hx : Fld.offset = .names → x.names = []) (hy : Fld.offset = .qids → x.qids = []) :
    Calls Tryz.prog 35 #[.pointer (some ⟨bm, 0, none⟩), .string (fname .offset), .string s] w (RdPost w B bm x s .offset) := by
  have hW := fun U => width_offset U
  by_cases hz : s.size < 8
  · have t1 : decide ((s.size : Int) < 8) = true := by simp; omega
    have hr : readF x s .offset = none := if_pos (.inl (num0_no hz))
    clear h
    go_enter Tryz.func35, Tryz.ntmps35
    go_wp2_with fail
    refine (hW _).mono ?_
    rintro e w1 ⟨rfl, rfl⟩
    clear hW
    go_wp2
    go_ret
    exact ⟨-1, rfl, Mod.refl _ _, .inl ⟨hr, rfl⟩⟩
  · have t1 : decide ((s.size : Int) < 8) = false := by simp; omega
    have hr : readF x s .offset = some ({ x with offset := leNat (s.extract 0 8).data.toList }, 8) := by
      have e := num0_ok (s := s) (k := 8) (by omega)
      rw [readF_of (lg := false) (y := { x with offset := (Rd.num ⟨s, 0, 0⟩ 8).1 }) (q := (Rd.num ⟨s, 0, 0⟩ 8).2) rfl, e]
      rfl
    have hT := fun U => read_any (s.extract 0 8) U (by rw [ByteArray.size_extract]; omega)
    have hlt := leNat_lt (s.extract 0 8).data.toList
    have hb2 : (s.extract 0 8).data.toList.length = 8 := by rw [bsize, ByteArray.size_extract]; omega
    rw [hb2] at hlt
    have hlt : leNat (s.extract 0 8).data.toList < 18446744073709551616 := hlt
    generalize leNat (s.extract 0 8).data.toList = n at *
    have hN := fun U hU => number_offset bm n x vn vq U hU hlt
    have b1 : (8 : Int) ≤ s.size := by omega
    have b1' : 8 ≤ s.size := by omega
    have H := Lib.hid h
    clear h hz hb2
    go_enter Tryz.func35, Tryz.ntmps35
    go_wp2_with fail
    refine (hW _).mono ?_
    rintro e w1 ⟨rfl, rfl⟩
    clear hW
    go_wp2_with fail
    refine (hT _).mono ?_
    rintro e w1 ⟨rfl, rfl⟩
    go_wp2_with fail
    refine (hN _ H.out.obj).mono ?_
    rintro e w2 ⟨rfl, ho, hm⟩
    have HE := Lib.hid (H.out.put (y := { x with offset := n }) hB hm ho rfl rfl)
    have HM := Lib.hid hm
    clear ho hm hN hT
    go_wp2
    go_ret
    exact ⟨8, rfl, HM.out, .inr ⟨_, 8, vn, vq, hr, rfl, HE.out⟩⟩
set_option maxHeartbeats 2000000 in
set_option maxRecDepth 100000 in
theorem read_count (B bm : Nat) (x : Msg) (vn vq : Value) (s : ByteArray) (w : World) (h : DMsg w B bm x vn vq) (hB : bm < B) (hBw : B ≤ w.heap.size) (hs : s.size ≤ 65536) (hx : Fld.count = .names → x.names = []) (hy : Fld.count = .qids → x.qids = []) :
    Calls Tryz.prog 35 #[.pointer (some ⟨bm, 0, none⟩), .string (fname .count), .string s] w (RdPost w B bm x s .count) := by
  have hW := fun U => width_count U
  by_cases hz : s.size < 4
  · have t1 : decide ((s.size : Int) < 4) = true := by simp; omega
    have hr : readF x s .count = none := if_pos (.inl (num0_no hz))
    clear h
    go_enter Tryz.func35, Tryz.ntmps35
    go_wp2_with fail
    refine (hW _).mono ?_
    rintro e w1 ⟨rfl, rfl⟩
    clear hW
    go_wp2
    go_ret
    exact ⟨-1, rfl, Mod.refl _ _, .inl ⟨hr, rfl⟩⟩
  · have t1 : decide ((s.size : Int) < 4) = false := by simp; omega
    have hr : readF x s .count = some ({ x with count := leNat (s.extract 0 4).data.toList }, 4) := by
      have e := num0_ok (s := s) (k := 4) (by omega)
      rw [readF_of (lg := false) (y := { x with count := (Rd.num ⟨s, 0, 0⟩ 4).1 }) (q := (Rd.num ⟨s, 0, 0⟩ 4).2) rfl, e]
      rfl
    have hT := fun U => read_any (s.extract 0 4) U (by rw [ByteArray.size_extract]; omega)
    have hlt := leNat_lt (s.extract 0 4).data.toList
    have hb2 : (s.extract 0 4).data.toList.length = 4 := by rw [bsize, ByteArray.size_extract]; omega
    rw [hb2] at hlt
    have hlt : leNat (s.extract 0 4).data.toList < 4294967296 := hlt
    generalize leNat (s.extract 0 4).data.toList = n at *
    have hN := fun U hU => number_count bm n x vn vq U hU hlt
    have b1 : (4 : Int) ≤ s.size := by omega
    have b1' : 4 ≤ s.size := by omega
    have H := Lib.hid h
    clear h hz hb2
    go_enter Tryz.func35, Tryz.ntmps35
    go_wp2_with fail
    refine (hW _).mono ?_
    rintro e w1 ⟨rfl, rfl⟩
    clear hW
    go_wp2_with fail
    refine (hT _).mono ?_
    rintro e w1 ⟨rfl, rfl⟩
    go_wp2_with fail
    refine (hN _ H.out.obj).mono ?_
    rintro e w2 ⟨rfl, ho, hm⟩
    have HE := Lib.hid (H.out.put (y := { x with count := n }) hB hm ho rfl rfl)
    have HM := Lib.hid hm
    clear ho hm hN hT
    go_wp2
    go_ret
    exact ⟨4, rfl, HM.out, .inr ⟨_, 4, vn, vq, hr, rfl, HE.out⟩⟩
set_option maxHeartbeats 2000000 in
set_option maxRecDepth 100000 in
theorem read_version (B bm : Nat) (x : Msg) (vn vq : Value) (s : ByteArray) (w : World) (h : DMsg w B bm x vn vq) (hB : bm < B) (hBw : B ≤ w.heap.size) (hs : s.size ≤ 65536) (hx : Fld.version = .names → x.names = []) (hy : Fld.version = .qids → x.qids = []) :
    Calls Tryz.prog 35 #[.pointer (some ⟨bm, 0, none⟩), .string (fname .version), .string s] w (RdPost w B bm x s .version) := by
  have hW := fun U => width_version U
  have hF := fun U => front_any s U hs
  have hc := readF_text (x := x) (s := s) (f := .version) (g := fun t => { x with version := t }) rfl
  generalize frontF s = P at *
  obtain ⟨t, n⟩ := P
  simp only at hF hc
  rcases hc with ⟨rfl, hr⟩ | ⟨k, rfl, hr⟩
  · clear h
    go_enter Tryz.func35, Tryz.ntmps35
    simp only [fname] at hW ⊢
    go_wp2_with fail
    refine (hW _).mono ?_
    rintro e w1 ⟨rfl, rfl⟩
    clear hW
    go_wp2_with fail
    refine (hF _).mono ?_
    rintro e w1 ⟨rfl, rfl⟩
    go_wp2
    go_ret
    exact ⟨-1, rfl, Mod.refl _ _, .inl ⟨hr, rfl⟩⟩
  · have t3 : decide ((k : Int) < 0) = false := by simp
    have c : w.cell? ⟨bm, 3, none⟩ = some (.string x.version) := (cell_of h.obj 3).trans rfl
    have f : w.frozen? ⟨bm, 3, none⟩ = false := free_of h.obj 3
    have HM : Hid (Mod (· = bm) w (w.setCell ⟨bm, 3, none⟩ (.string t))) := Mod.set1 w bm 3 _
    have HE : Hid (DMsg (w.setCell ⟨bm, 3, none⟩ (.string t)) B bm { x with version := t } vn vq) := h.put hB HM.out (heap_set h.obj 3 _) rfl rfl
    clear h
    go_enter Tryz.func35, Tryz.ntmps35
    simp only [fname] at hW ⊢
    go_wp2_with fail
    refine (hW _).mono ?_
    rintro e w1 ⟨rfl, rfl⟩
    clear hW
    go_wp2_with fail
    refine (hF _).mono ?_
    rintro e w1 ⟨rfl, rfl⟩
    go_wp2
    go_ret
    exact ⟨k, rfl, HM.out, .inr ⟨_, k, vn, vq, hr, rfl, HE.out⟩⟩
set_option maxHeartbeats 2000000 in
set_option maxRecDepth 100000 in
theorem read_uname (B bm : Nat) (x : Msg) (vn vq : Value) (s : ByteArray) (w : World) (h : DMsg w B bm x vn vq) (hB : bm < B) (hBw : B ≤ w.heap.size) (hs : s.size ≤ 65536) (hx : Fld.uname = .names → x.names = []) (hy : Fld.uname = .qids → x.qids = []) :
    Calls Tryz.prog 35 #[.pointer (some ⟨bm, 0, none⟩), .string (fname .uname), .string s] w (RdPost w B bm x s .uname) := by
  have hW := fun U => width_uname U
  have hF := fun U => front_any s U hs
  have hc := readF_text (x := x) (s := s) (f := .uname) (g := fun t => { x with uname := t }) rfl
  generalize frontF s = P at *
  obtain ⟨t, n⟩ := P
  simp only at hF hc
  rcases hc with ⟨rfl, hr⟩ | ⟨k, rfl, hr⟩
  · clear h
    go_enter Tryz.func35, Tryz.ntmps35
    simp only [fname] at hW ⊢
    go_wp2_with fail
    refine (hW _).mono ?_
    rintro e w1 ⟨rfl, rfl⟩
    clear hW
    go_wp2_with fail
    refine (hF _).mono ?_
    rintro e w1 ⟨rfl, rfl⟩
    go_wp2
    go_ret
    exact ⟨-1, rfl, Mod.refl _ _, .inl ⟨hr, rfl⟩⟩
  · have t3 : decide ((k : Int) < 0) = false := by simp
    have c : w.cell? ⟨bm, 8, none⟩ = some (.string x.uname) := (cell_of h.obj 8).trans rfl
    have f : w.frozen? ⟨bm, 8, none⟩ = false := free_of h.obj 8
    have HM : Hid (Mod (· = bm) w (w.setCell ⟨bm, 8, none⟩ (.string t))) := Mod.set1 w bm 8 _
    have HE : Hid (DMsg (w.setCell ⟨bm, 8, none⟩ (.string t)) B bm { x with uname := t } vn vq) := h.put hB HM.out (heap_set h.obj 8 _) rfl rfl
    clear h
    go_enter Tryz.func35, Tryz.ntmps35
    simp only [fname] at hW ⊢
    go_wp2_with fail
    refine (hW _).mono ?_
    rintro e w1 ⟨rfl, rfl⟩
    clear hW
    go_wp2_with fail
    refine (hF _).mono ?_
    rintro e w1 ⟨rfl, rfl⟩
    go_wp2
    go_ret
    exact ⟨k, rfl, HM.out, .inr ⟨_, k, vn, vq, hr, rfl, HE.out⟩⟩
set_option maxHeartbeats 2000000 in
set_option maxRecDepth 100000 in
theorem read_aname (B bm : Nat) (x : Msg) (vn vq : Value) (s : ByteArray) (w : World) (h : DMsg w B bm x vn vq) (hB : bm < B) (hBw : B ≤ w.heap.size) (hs : s.size ≤ 65536) (hx : Fld.aname = .names → x.names = []) (hy : Fld.aname = .qids → x.qids = []) :
    Calls Tryz.prog 35 #[.pointer (some ⟨bm, 0, none⟩), .string (fname .aname), .string s] w (RdPost w B bm x s .aname) := by
  have hW := fun U => width_aname U
  have hF := fun U => front_any s U hs
  have hc := readF_text (x := x) (s := s) (f := .aname) (g := fun t => { x with aname := t }) rfl
  generalize frontF s = P at *
  obtain ⟨t, n⟩ := P
  simp only at hF hc
  rcases hc with ⟨rfl, hr⟩ | ⟨k, rfl, hr⟩
  · clear h
    go_enter Tryz.func35, Tryz.ntmps35
    simp only [fname] at hW ⊢
    go_wp2_with fail
    refine (hW _).mono ?_
    rintro e w1 ⟨rfl, rfl⟩
    clear hW
    go_wp2_with fail
    refine (hF _).mono ?_
    rintro e w1 ⟨rfl, rfl⟩
    go_wp2
    go_ret
    exact ⟨-1, rfl, Mod.refl _ _, .inl ⟨hr, rfl⟩⟩
  · have t3 : decide ((k : Int) < 0) = false := by simp
    have c : w.cell? ⟨bm, 9, none⟩ = some (.string x.aname) := (cell_of h.obj 9).trans rfl
    have f : w.frozen? ⟨bm, 9, none⟩ = false := free_of h.obj 9
    have HM : Hid (Mod (· = bm) w (w.setCell ⟨bm, 9, none⟩ (.string t))) := Mod.set1 w bm 9 _
    have HE : Hid (DMsg (w.setCell ⟨bm, 9, none⟩ (.string t)) B bm { x with aname := t } vn vq) := h.put hB HM.out (heap_set h.obj 9 _) rfl rfl
    clear h
    go_enter Tryz.func35, Tryz.ntmps35
    simp only [fname] at hW ⊢
    go_wp2_with fail
    refine (hW _).mono ?_
    rintro e w1 ⟨rfl, rfl⟩
    clear hW
    go_wp2_with fail
    refine (hF _).mono ?_
    rintro e w1 ⟨rfl, rfl⟩
    go_wp2
    go_ret
    exact ⟨k, rfl, HM.out, .inr ⟨_, k, vn, vq, hr, rfl, HE.out⟩⟩
set_option maxHeartbeats 2000000 in
set_option maxRecDepth 100000 in
theorem read_ename (B bm : Nat) (x : Msg) (vn vq : Value) (s : ByteArray) (w : World) (h : DMsg w B bm x vn vq) (hB : bm < B) (hBw : B ≤ w.heap.size) (hs : s.size ≤ 65536) (hx : Fld.ename = .names → x.names = []) (hy : Fld.ename = .qids → x.qids = []) :
    Calls Tryz.prog 35 #[.pointer (some ⟨bm, 0, none⟩), .string (fname .ename), .string s] w (RdPost w B bm x s .ename) := by
  have hW := fun U => width_ename U
  have hF := fun U => front_any s U hs
  have hc := readF_text (x := x) (s := s) (f := .ename) (g := fun t => { x with ename := t }) rfl
  generalize frontF s = P at *
  obtain ⟨t, n⟩ := P
  simp only at hF hc
  rcases hc with ⟨rfl, hr⟩ | ⟨k, rfl, hr⟩
  · clear h
    go_enter Tryz.func35, Tryz.ntmps35
    simp only [fname] at hW ⊢
    go_wp2_with fail
    refine (hW _).mono ?_
    rintro e w1 ⟨rfl, rfl⟩
    clear hW
    go_wp2_with fail
    refine (hF _).mono ?_
    rintro e w1 ⟨rfl, rfl⟩
    go_wp2
    go_ret
    exact ⟨-1, rfl, Mod.refl _ _, .inl ⟨hr, rfl⟩⟩
  · have t3 : decide ((k : Int) < 0) = false := by simp
    have c : w.cell? ⟨bm, 10, none⟩ = some (.string x.ename) := (cell_of h.obj 10).trans rfl
    have f : w.frozen? ⟨bm, 10, none⟩ = false := free_of h.obj 10
    have HM : Hid (Mod (· = bm) w (w.setCell ⟨bm, 10, none⟩ (.string t))) := Mod.set1 w bm 10 _
    have HE : Hid (DMsg (w.setCell ⟨bm, 10, none⟩ (.string t)) B bm { x with ename := t } vn vq) := h.put hB HM.out (heap_set h.obj 10 _) rfl rfl
    clear h
    go_enter Tryz.func35, Tryz.ntmps35
    simp only [fname] at hW ⊢
    go_wp2_with fail
    refine (hW _).mono ?_
    rintro e w1 ⟨rfl, rfl⟩
    clear hW
    go_wp2_with fail
    refine (hF _).mono ?_
    rintro e w1 ⟨rfl, rfl⟩
    go_wp2
    go_ret
    exact ⟨k, rfl, HM.out, .inr ⟨_, k, vn, vq, hr, rfl, HE.out⟩⟩
set_option maxHeartbeats 2000000 in
set_option maxRecDepth 100000 in
theorem read_name (B bm : Nat) (x : Msg) (vn vq : Value) (s : ByteArray) (w : World) (h : DMsg w B bm x vn vq) (hB : bm < B) (hBw : B ≤ w.heap.size) (hs : s.size ≤ 65536) (hx : Fld.name = .names → x.names = []) (hy : Fld.name = .qids → x.qids = []) :
    Calls Tryz.prog 35 #[.pointer (some ⟨bm, 0, none⟩), .string (fname .name), .string s] w (RdPost w B bm x s .name) := by
  have hW := fun U => width_name U
  have hF := fun U => front_any s U hs
  have hc := readF_text (x := x) (s := s) (f := .name) (g := fun t => { x with name := t }) rfl
  generalize frontF s = P at *
  obtain ⟨t, n⟩ := P
  simp only at hF hc
  rcases hc with ⟨rfl, hr⟩ | ⟨k, rfl, hr⟩
  · clear h
    go_enter Tryz.func35, Tryz.ntmps35
    simp only [fname] at hW ⊢
    go_wp2_with fail
    refine (hW _).mono ?_
    rintro e w1 ⟨rfl, rfl⟩
    clear hW
    go_wp2_with fail
    refine (hF _).mono ?_
    rintro e w1 ⟨rfl, rfl⟩
    go_wp2
    go_ret
    exact ⟨-1, rfl, Mod.refl _ _, .inl ⟨hr, rfl⟩⟩
  · have t3 : decide ((k : Int) < 0) = false := by simp
    have c : w.cell? ⟨bm, 11, none⟩ = some (.string x.name) := (cell_of h.obj 11).trans rfl
    have f : w.frozen? ⟨bm, 11, none⟩ = false := free_of h.obj 11
    have HM : Hid (Mod (· = bm) w (w.setCell ⟨bm, 11, none⟩ (.string t))) := Mod.set1 w bm 11 _
    have HE : Hid (DMsg (w.setCell ⟨bm, 11, none⟩ (.string t)) B bm { x with name := t } vn vq) := h.put hB HM.out (heap_set h.obj 11 _) rfl rfl
    clear h
    go_enter Tryz.func35, Tryz.ntmps35
    simp only [fname] at hW ⊢
    go_wp2_with fail
    refine (hW _).mono ?_
    rintro e w1 ⟨rfl, rfl⟩
    clear hW
    go_wp2_with fail
    refine (hF _).mono ?_
    rintro e w1 ⟨rfl, rfl⟩
    go_wp2
    go_ret
    exact ⟨k, rfl, HM.out, .inr ⟨_, k, vn, vq, hr, rfl, HE.out⟩⟩
set_option maxHeartbeats 2000000 in
set_option maxRecDepth 100000 in
theorem read_names (B bm : Nat) (x : Msg) (vn vq : Value) (s : ByteArray) (w : World) (h : DMsg w B bm x vn vq) (hB : bm < B) (hBw : B ≤ w.heap.size) (hs : s.size ≤ 65536) (hx : Fld.names = .names → x.names = []) (hy : Fld.names = .qids → x.qids = []) :
    Calls Tryz.prog 35 #[.pointer (some ⟨bm, 0, none⟩), .string (fname .names), .string s] w (RdPost w B bm x s .names) := by
  have hW := fun U => width_names U
  have hL := rlist_names B bm x vn vq s w h hB hBw (hx rfl) hs
  clear h
  go_enter Tryz.func35, Tryz.ntmps35
  simp only [fname] at hW ⊢
  go_wp2_with fail
  refine (hW _).mono ?_
  rintro e w1 ⟨rfl, rfl⟩
  clear hW
  simp only [fname] at hL
  go_wp2_with fail
  refine hL.mono ?_
  rintro e w1 ⟨n, rfl, hm⟩
  go_wp2
  go_ret
  exact ⟨n, rfl, hm⟩
set_option maxHeartbeats 2000000 in
set_option maxRecDepth 100000 in
theorem read_qids (B bm : Nat) (x : Msg) (vn vq : Value) (s : ByteArray) (w : World) (h : DMsg w B bm x vn vq) (hB : bm < B) (hBw : B ≤ w.heap.size) (hs : s.size ≤ 65536) (hx : Fld.qids = .names → x.names = []) (hy : Fld.qids = .qids → x.qids = []) :
    Calls Tryz.prog 35 #[.pointer (some ⟨bm, 0, none⟩), .string (fname .qids), .string s] w (RdPost w B bm x s .qids) := by
  have hW := fun U => width_qids U
  have hL := rlist_qids B bm x vn vq s w h hB hBw (hy rfl) hs
  clear h
  go_enter Tryz.func35, Tryz.ntmps35
  simp only [fname] at hW ⊢
  go_wp2_with fail
  refine (hW _).mono ?_
  rintro e w1 ⟨rfl, rfl⟩
  clear hW
  simp only [fname] at hL
  go_wp2_with fail
  refine hL.mono ?_
  rintro e w1 ⟨n, rfl, hm⟩
  go_wp2
  go_ret
  exact ⟨n, rfl, hm⟩
set_option maxHeartbeats 2000000 in
set_option maxRecDepth 100000 in
theorem read_qid (B bm : Nat) (x : Msg) (vn vq : Value) (s : ByteArray) (w : World) (h : DMsg w B bm x vn vq) (hB : bm < B) (hBw : B ≤ w.heap.size) (hs : s.size ≤ 65536) (hx : Fld.qid = .names → x.names = []) (hy : Fld.qid = .qids → x.qids = []) :
    Calls Tryz.prog 35 #[.pointer (some ⟨bm, 0, none⟩), .string (fname .qid), .string s] w (RdPost w B bm x s .qid) := by
  have hW := fun U => width_qid U
  by_cases hz : s.size < 13
  · have t1 : decide ((s.size : Int) < 13) = true := by simp; omega
    have hr : readF x s .qid = none := if_pos (.inl (rdQid_no (a := 0) (by omega)))
    clear h
    go_enter Tryz.func35, Tryz.ntmps35
    simp only [fname] at hW ⊢
    go_wp2_with fail
    refine (hW _).mono ?_
    rintro e w1 ⟨rfl, rfl⟩
    clear hW
    go_wp2
    go_ret
    exact ⟨-1, rfl, Mod.refl _ _, .inl ⟨hr, rfl⟩⟩
  · have t1 : decide ((s.size : Int) < 13) = false := by simp; omega
    have e := rdQid_ok2 (s := s) (a := 0) (by omega)
    simp only [Nat.zero_add] at e
    have hr : readF x s .qid = some ({ x with qid := (rdQid ⟨s, 0, 0⟩).1 }, 13) := by
      rw [readF_of (lg := false) (y := { x with qid := (rdQid ⟨s, 0, 0⟩).1 }) (q := (rdQid ⟨s, 0, 0⟩).2) rfl, e]
      rfl
    rw [e] at hr
    have hF := fun U => readQid_any (s.extract 0 13) U (by rw [ByteArray.size_extract]; omega)
    clear e
    generalize leNat ((s.extract 0 13).extract 0 1).data.toList = q1 at *
    generalize leNat ((s.extract 0 13).extract 1 5).data.toList = q2 at *
    generalize leNat ((s.extract 0 13).extract 5 13).data.toList = q3 at *
    have b1 : (13 : Int) ≤ s.size := by omega
    have b1' : 13 ≤ s.size := by omega
    have H := Lib.hid h
    clear h hz
    go_enter Tryz.func35, Tryz.ntmps35
    simp only [fname] at hW ⊢
    go_wp2_with fail
    refine (hW _).mono ?_
    rintro e w1 ⟨rfl, rfl⟩
    clear hW
    go_wp2_with fail
    refine (hF _).mono ?_
    rintro e w1 ⟨rfl, m1⟩
    have hob := (m1.block bm (lt_of H.out.obj) (fun x => x)).trans H.out.obj
    have c0 : w1.cell? ⟨bm, 13, none⟩ = some (.int .u8 x.qid.t) := (cell_of hob 13).trans rfl
    have c1 : w1.cell? ⟨bm, 14, none⟩ = some (.int .u32 x.qid.v) := (cell_of hob 14).trans rfl
    have c2 : w1.cell? ⟨bm, 15, none⟩ = some (.int .u64 x.qid.p) := (cell_of hob 15).trans rfl
    have f0 : w1.frozen? ⟨bm, 13, none⟩ = false := free_of hob 13
    have f1 : w1.frozen? ⟨bm, 14, none⟩ = false := free_of hob 14
    have f2 : w1.frozen? ⟨bm, 15, none⟩ = false := free_of hob 15
    have HM : Hid (Mod (· = bm) w (((w1.setCell ⟨bm, 13, none⟩ (.int .u8 q1)).setCell ⟨bm, 14, none⟩ (.int .u32 q2)).setCell ⟨bm, 15, none⟩ (.int .u64 q3))) := (((m1.mono fun _ _ x => x.elim).trans (Mod.set1 _ bm 13 _)).trans (Mod.set1 _ bm 14 _)).trans (Mod.set1 _ bm 15 _)
    have HE : Hid (DMsg (((w1.setCell ⟨bm, 13, none⟩ (.int .u8 q1)).setCell ⟨bm, 14, none⟩ (.int .u32 q2)).setCell ⟨bm, 15, none⟩ (.int .u64 q3)) B bm { x with qid := ⟨q1, q2, q3⟩ } vn vq) := H.out.put hB HM.out (heap_set (heap_set (heap_set hob 13 _) 14 _) 15 _) rfl rfl
    clear m1 hob hF
    go_wp2
    go_ret
    exact ⟨13, rfl, HM.out, .inr ⟨_, 13, vn, vq, hr, rfl, HE.out⟩⟩
set_option maxHeartbeats 2000000 in
set_option maxRecDepth 100000 in
theorem read_data (B bm : Nat) (x : Msg) (vn vq : Value) (s : ByteArray) (w : World) (h : DMsg w B bm x vn vq) (hB : bm < B) (hBw : B ≤ w.heap.size) (hs : s.size ≤ 65536) (hx : Fld.data = .names → x.names = []) (hy : Fld.data = .qids → x.qids = []) :
    Calls Tryz.prog 35 #[.pointer (some ⟨bm, 0, none⟩), .string (fname .data), .string s] w (RdPost w B bm x s .data) := by
  have hW := fun U => width_data U
  by_cases hz : s.size < 4
  · have t1 : decide ((s.size : Int) < 4) = true := by simp; omega
    have hr : readF x s .data = none := if_pos (.inl fun e => num0_no hz (Rd.bytes_adv e).1)
    clear h
    go_enter Tryz.func35, Tryz.ntmps35
    simp only [fname] at hW ⊢
    go_wp2_with fail
    refine (hW _).mono ?_
    rintro e w1 ⟨rfl, rfl⟩
    clear hW
    go_wp2
    go_ret
    exact ⟨-1, rfl, Mod.refl _ _, .inl ⟨hr, rfl⟩⟩
  · have t1 : decide ((s.size : Int) < 4) = false := by simp; omega
    have HR := Lib.hid (readF_data (x := x) (s := s) (by omega))
    have hT := fun U => read_any (s.extract 0 4) U (by rw [ByteArray.size_extract]; omega)
    have hlt := leNat_lt (s.extract 0 4).data.toList
    have hb2 : (s.extract 0 4).data.toList.length = 4 := by rw [bsize, ByteArray.size_extract]; omega
    rw [hb2] at hlt
    have hlt : leNat (s.extract 0 4).data.toList < 4294967296 := hlt
    generalize leNat (s.extract 0 4).data.toList = n at *
    have b1 : (4 : Int) ≤ s.size := by omega
    have b1' : 4 ≤ s.size := by omega
    have hw : IntKind.i64.wrap (n : Int) = n := by rw [IntKind.wrap_i64]; omega
    have hw2 : IntKind.u64.wrap ((s.size : Int) - 4) = (s.size : Int) - 4 := by rw [IntKind.wrap_u64]; omega
    by_cases hn : s.size < 4 + n
    · have t2 : decide ((s.size : Int) - 4 < (n : Int)) = true := by simp; omega
      have hr : readF x s .data = none := HR.out.trans (if_pos hn)
      clear h HR hn hb2
      go_enter Tryz.func35, Tryz.ntmps35
      simp only [fname] at hW ⊢
      go_wp2_with fail
      refine (hW _).mono ?_
      rintro e w1 ⟨rfl, rfl⟩
      clear hW
      go_wp2_with (go_at_call 32; refine (hT _).mono ?_; rintro e w1 ⟨rfl, rfl⟩)
      go_ret
      exact ⟨-1, rfl, Mod.refl _ _, .inl ⟨hr, rfl⟩⟩
    · have t2 : decide ((s.size : Int) - 4 < (n : Int)) = false := by simp; omega
      have hr : readF x s .data = some ({ x with data := s.extract 4 (4 + n) }, 4 + n) := HR.out.trans (if_neg hn)
      have b2 : 4 + (n : Int) ≤ s.size := by omega
      have b2' : 4 + n ≤ s.size := by omega
      have b3 : (4 : Int) ≤ 4 + n := by omega
      have c : w.cell? ⟨bm, 22, none⟩ = some (.string x.data) := (cell_of h.obj 22).trans rfl
      have f : w.frozen? ⟨bm, 22, none⟩ = false := free_of h.obj 22
      have HM : Hid (Mod (· = bm) w (w.setCell ⟨bm, 22, none⟩ (.string (s.extract 4 (4 + n))))) := Mod.set1 w bm 22 _
      have HE : Hid (DMsg (w.setCell ⟨bm, 22, none⟩ (.string (s.extract 4 (4 + n)))) B bm { x with data := s.extract 4 (4 + n) } vn vq) := h.put hB HM.out (heap_set h.obj 22 _) rfl rfl
      clear h HR hn hb2
      go_enter Tryz.func35, Tryz.ntmps35
      simp only [fname] at hW ⊢
      go_wp2_with fail
      refine (hW _).mono ?_
      rintro e w1 ⟨rfl, rfl⟩
      clear hW
      go_wp2_with (go_at_call 32; refine (hT _).mono ?_; rintro e w1 ⟨rfl, rfl⟩)
      go_ret
      exact ⟨((4 + n : Nat) : Int), by congr 2, HM.out, .inr ⟨_, 4 + n, vn, vq, hr, rfl, HE.out⟩⟩
set_option maxHeartbeats 2000000 in
set_option maxRecDepth 100000 in
theorem read_stat (B bm : Nat) (x : Msg) (vn vq : Value) (s : ByteArray) (w : World) (h : DMsg w B bm x vn vq) (hB : bm < B) (hBw : B ≤ w.heap.size) (hs : s.size ≤ 65536) (hx : Fld.stat = .names → x.names = []) (hy : Fld.stat = .qids → x.qids = []) :
    Calls Tryz.prog 35 #[.pointer (some ⟨bm, 0, none⟩), .string (fname .stat), .string s] w (RdPost w B bm x s .stat) := by
  have hW := fun U => width_stat U
  by_cases hz : s.size < 2
  · have t1 : decide ((s.size : Int) < 2) = true := by simp; omega
    have hr := (readF_short (x := x) hz).2.2
    clear h
    go_enter Tryz.func35, Tryz.ntmps35
    simp only [fname] at hW ⊢
    go_wp2_with fail
    refine (hW _).mono ?_
    rintro e w1 ⟨rfl, rfl⟩
    clear hW
    go_wp2
    go_ret
    exact ⟨-1, rfl, Mod.refl _ _, .inl ⟨hr, rfl⟩⟩
  · have t1 : decide ((s.size : Int) < 2) = false := by simp; omega
    have HR := Lib.hid (readF_stat (x := x) (s := s) (by omega))
    have hT := fun U => read_any (s.extract 0 2) U (by rw [ByteArray.size_extract]; omega)
    have hlt := leNat_lt (s.extract 0 2).data.toList
    have hb2 : (s.extract 0 2).data.toList.length = 2 := by rw [bsize, ByteArray.size_extract]; omega
    rw [hb2] at hlt
    have hlt : leNat (s.extract 0 2).data.toList < 65536 := hlt
    generalize leNat (s.extract 0 2).data.toList = n at *
    have b1 : (2 : Int) ≤ s.size := by omega
    have b1' : 2 ≤ s.size := by omega
    have hw : IntKind.i64.wrap (n : Int) = n := by rw [IntKind.wrap_i64]; omega
    by_cases hn : s.size < 2 + n
    · have t2 : decide ((s.size : Int) - 2 < (n : Int)) = true := by simp; omega
      have hr : readF x s .stat = none := HR.out.trans (if_pos hn)
      clear h HR hn hb2
      go_enter Tryz.func35, Tryz.ntmps35
      simp only [fname] at hW ⊢
      go_wp2_with fail
      refine (hW _).mono ?_
      rintro e w1 ⟨rfl, rfl⟩
      clear hW
      go_wp2_with (go_at_call 32; refine (hT _).mono ?_; rintro e w1 ⟨rfl, rfl⟩)
      go_ret
      exact ⟨-1, rfl, Mod.refl _ _, .inl ⟨hr, rfl⟩⟩
    · have t2 : decide ((s.size : Int) - 2 < (n : Int)) = false := by simp; omega
      have HR2 := Lib.hid (HR.out.trans (if_neg hn))
      clear HR
      have b2 : 2 + (n : Int) ≤ s.size := by omega
      have b2' : 2 + n ≤ s.size := by omega
      have b3 : (2 : Int) ≤ 2 + n := by omega
      have hD := fun U => rdec_any (s.extract 2 (2 + n)) U (by rw [ByteArray.size_extract]; omega)
      generalize decS (s.extract 2 (2 + n)) = D at *
      obtain ⟨st, de⟩ := D
      unfold St.v at hD
      simp only at hD HR2
      have hsz := st_len st
      have hsl : st.cells.length = (#[.int .u16 0, .int .u32 0, .int .u8 0, .int .u32 0, .int .u64 0, .int .u32 0, .int .u32 0, .int .u32 0, .int .u64 0, .string { data := #[] }, .string { data := #[] }, .string { data := #[] }, .string { data := #[] }] : Array Value).size := rfl
      have H := Lib.hid h
      clear h hn hb2
      go_enter Tryz.func35, Tryz.ntmps35
      simp only [fname] at hW ⊢
      go_wp2_with fail
      refine (hW _).mono ?_
      rintro e w1 ⟨rfl, rfl⟩
      clear hW
      go_wp2_with (go_at_call 32; refine (hT _).mono ?_; rintro e w1 ⟨rfl, rfl⟩)
      refine (hD _).mono ?_
      rintro e w1 ⟨rfl, m1⟩
      have hob := (m1.block bm (lt_of H.out.obj) (fun x => x)).trans H.out.obj
      obtain ⟨W2, hW2⟩ : ∃ W2, w1.alloc (.cells #[.int .u16 0, .int .u32 0, .int .u8 0, .int .u32 0, .int .u64 0, .int .u32 0, .int .u32 0, .int .u32 0, .int .u64 0, .string { data := #[] }, .string { data := #[] }, .string { data := #[] }, .string { data := #[] }] 31) = W2 := ⟨_, rfl⟩
      have hz2 : W2.heap[w1.heap.size]? = some (.cells #[.int .u16 0, .int .u32 0, .int .u8 0, .int .u32 0, .int .u64 0, .int .u32 0, .int .u32 0, .int .u32 0, .int .u64 0, .string { data := #[] }, .string { data := #[] }, .string { data := #[] }, .string { data := #[] }] 31 (0, 0)) := by subst hW2; exact new_at _ _
      have m2 : Mod (fun _ => False) w1 W2 := by subst hW2; exact (Mod.refl _ _).alloc _
      obtain ⟨W3, hst3, hb3, m3⟩ := st_row (P := Tryz.prog) W2 w1.heap.size _ st.cells _ hz2 hsl (st_one st)
      have hbl := lt_of hob
      have hob3 := (m3.block bm (Nat.lt_of_lt_of_le hbl m2.size) (fun e => by omega)).trans ((m2.block bm hbl (fun x => x)).trans hob)
      have M3 : Hid (Mod (· = bm) w W3) := (((m1.mono fun _ _ x => x.elim).trans (m2.mono fun _ _ x => x.elim))).trans' m3 fun k hk e => by have := m1.size; omega
      obtain ⟨W4, hst4, hb4, m4⟩ := st_part (P := Tryz.prog) W3 bm 23 _ st.cells _ hob3 (by rw [hsz]; exact le36 _ (by decide)) (st_one st)
      have hrg : W3.rangeAt w1.heap.size 0 st.cells := fun j v hv => by rw [Nat.zero_add, cell_of hb3, List.getElem?_toArray]; exact hv
      have HM := Lib.hid (M3.out.trans m4)
      have HE : Hid (DMsg W4 B bm { x with stat := st } vn vq) := H.out.put hB HM.out hb4 rfl rfl
      obtain ⟨ad, had⟩ : ∃ ad, w1.heap.size = ad := ⟨_, rfl⟩
      rw [had] at hst3 hrg
      clear hT hD m1 hob hz2 m2 hb3 m3 hob3 hb4 m4
      by_cases hde : de = 0
      · have t4 : (de != 0) = false := by simp [hde]
        have hr : readF x s .stat = some ({ x with stat := st }, 2 + n) := HR2.out.trans (if_neg (by simp [hde]))
        subst hde
        clear HR2
        go_wp2_with (refine wpList_load_mid rfl 31 (.tmp 10) rfl ad 0 rfl st.cells _ hrg Tryz.underlying31 rfl (by kernel_rfl) ?_)
        go_ret
        exact ⟨((2 + n : Nat) : Int), by congr 2, HM.out, .inr ⟨_, 2 + n, vn, vq, hr, rfl, HE.out⟩⟩
      · have t4 : (de != 0) = true := by simp [hde]
        have hr : readF x s .stat = none := HR2.out.trans (if_pos hde)
        clear HR2
        go_wp2
        go_ret
        exact ⟨-1, rfl, M3.out, .inl ⟨hr, rfl⟩⟩
theorem rread_any (f : Fld) (B bm : Nat) (x : Msg) (vn vq : Value) (s : ByteArray) (w : World) (h : DMsg w B bm x vn vq) (hB : bm < B) (hBw : B ≤ w.heap.size) (hs : s.size ≤ 65536) (hx : f = .names → x.names = []) (hy : f = .qids → x.qids = []) :
    Calls Tryz.prog 35 #[.pointer (some ⟨bm, 0, none⟩), .string (fname f), .string s] w (RdPost w B bm x s f) := by
  cases f
  · exact read_msize B bm x vn vq s w h hB hBw hs hx hy
  · exact read_version B bm x vn vq s w h hB hBw hs hx hy
  · exact read_fid B bm x vn vq s w h hB hBw hs hx hy
  · exact read_afid B bm x vn vq s w h hB hBw hs hx hy
  · exact read_newfid B bm x vn vq s w h hB hBw hs hx hy
  · exact read_oldtag B bm x vn vq s w h hB hBw hs hx hy
  · exact read_uname B bm x vn vq s w h hB hBw hs hx hy
  · exact read_aname B bm x vn vq s w h hB hBw hs hx hy
  · exact read_ename B bm x vn vq s w h hB hBw hs hx hy
  · exact read_name B bm x vn vq s w h hB hBw hs hx hy
  · exact read_names B bm x vn vq s w h hB hBw hs hx hy
  · exact read_qid B bm x vn vq s w h hB hBw hs hx hy
  · exact read_qids B bm x vn vq s w h hB hBw hs hx hy
  · exact read_mode B bm x vn vq s w h hB hBw hs hx hy
  · exact read_perm B bm x vn vq s w h hB hBw hs hx hy
  · exact read_iounit B bm x vn vq s w h hB hBw hs hx hy
  · exact read_offset B bm x vn vq s w h hB hBw hs hx hy
  · exact read_count B bm x vn vq s w h hB hBw hs hx hy
  · exact read_data B bm x vn vq s w h hB hBw hs hx hy
  · exact read_stat B bm x vn vq s w h hB hBw hs hx hy
end Go.Proofs.YtklpopmjpgdjnaaGreatDoor
