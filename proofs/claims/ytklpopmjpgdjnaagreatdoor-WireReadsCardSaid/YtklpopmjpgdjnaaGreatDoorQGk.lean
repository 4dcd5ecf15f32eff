/- Package wire's empty: has a message no field?
   A message written whole, plain. -/
import Derived.Test.YtklpopmjpgdjnaaGreatDoorQGe
import Derived.Test.YtklpopmjpgdjnaaGreatDoorQStatEq
import Derived.Test.YtklpopmjpgdjnaaGreatDoorQPlain
set_option linter.unusedVariables false
set_option linter.unusedSimpArgs false
namespace Go.Proofs.YtklpopmjpgdjnaaGreatDoor
open Go.RowKit

/-- the numbers of a message, one with the other -/
def Msg.ors (m : Msg) : Nat := ((((((((m.msize ||| m.fid) ||| m.afid) ||| m.newfid) ||| m.oldtag) ||| m.mode) ||| m.perm) ||| m.iounit) ||| m.offset) ||| m.count
def Msg.txts (m : Msg) : ByteArray := ((((m.version ++ m.uname) ++ m.aname) ++ m.ename) ++ m.name) ++ m.data
def emptyM (m : Msg) : Bool := decide (m.ors = 0) && (decide (m.txts.size = 0) && (decide (m.names.length + m.qids.length = 0) && (decide (m.qid.t = 0 ∧ m.qid.v = 0 ∧ m.qid.p = 0) && eqS m.stat St.zero)))
theorem empty_beq' (s : ByteArray) : s.toList.isEmpty = decide (s.size = 0) := by
  rw [ByteArray.toList_eq, Bool.eq_iff_iff, List.isEmpty_iff, decide_eq_true_eq, ← List.length_eq_zero_iff, Array.length_toList]
  exact Iff.rfl
set_option maxHeartbeats 1000000 in
theorem eqQ0 (q : Qd) (w : World) : (binOp .eql 28 (.agg #[.int .u8 q.t, .int .u32 q.v, .int .u64 q.p]) (.agg #[.int .u8 0, .int .u32 0, .int .u64 0])).run Tryz.prog w = .ok (.bool (decide (q.t = 0 ∧ q.v = 0 ∧ q.p = 0))) w := by
  have ht : Tryz.prog.underlying 28 = some (.struct (Tryz.prog.fieldsOf 28)) := by kernel_rfl
  have hp : Tryz.prog.stoodInHeld 28 = false := by kernel_rfl
  rw [run_eql_struct, show (10000 : Nat) = 9999 + 1 from rfl, run_equalIn_agg w 9999 _ _ _ ht hp]
  simp [go_sem, Op.eqFields]
  by_cases h1 : q.t = 0
  · by_cases h2 : q.v = 0
    · by_cases h3 : q.p = 0 <;> simp [h1, h2, h3]
    · simp [h1, h2]
  · simp [h1]
set_option maxHeartbeats 4000000 in
set_option maxRecDepth 100000 in
theorem empty_any (m : Msg) (vn vq : Value) (P : Nat → Prop) (w : World) (hk : m.Ok) (hs : m.Small) (hn : SlAt w P vn (m.names.map .string)) (hq : RecsAt Qd.cells 3 w P vq m.qids) :
    Calls Tryz.prog 39 #[.agg (m.cells vn vq).toArray] w fun e w' => e = .returned (.bool (emptyM m)) ∧ Mod (fun _ => False) w w' := by
  obtain ⟨W, hW⟩ : ∃ W, w.alloc (.cells (m.cells vn vq).toArray 33) = W := ⟨_, rfl⟩
  have hb : W.heap[w.heap.size]? = some (msgO m vn vq) := by subst hW; exact new_at _ _
  have m0 : Mod (fun _ => False) w W := by subst hW; exact (Mod.refl _ w).alloc _
  obtain ⟨an, cn, rfl, _⟩ := hn.form
  obtain ⟨aq, cq, rfl, _⟩ := hq.form
  rw [List.length_map] at hb hW ⊢
  have c2 : W.cell? ⟨w.heap.size, 2, none⟩ = some (.int .u32 m.msize) := (cell_of hb 2).trans rfl
  have c3 : W.cell? ⟨w.heap.size, 3, none⟩ = some (.string m.version) := (cell_of hb 3).trans rfl
  have c4 : W.cell? ⟨w.heap.size, 4, none⟩ = some (.int .u32 m.fid) := (cell_of hb 4).trans rfl
  have c5 : W.cell? ⟨w.heap.size, 5, none⟩ = some (.int .u32 m.afid) := (cell_of hb 5).trans rfl
  have c6 : W.cell? ⟨w.heap.size, 6, none⟩ = some (.int .u32 m.newfid) := (cell_of hb 6).trans rfl
  have c7 : W.cell? ⟨w.heap.size, 7, none⟩ = some (.int .u16 m.oldtag) := (cell_of hb 7).trans rfl
  have c8 : W.cell? ⟨w.heap.size, 8, none⟩ = some (.string m.uname) := (cell_of hb 8).trans rfl
  have c9 : W.cell? ⟨w.heap.size, 9, none⟩ = some (.string m.aname) := (cell_of hb 9).trans rfl
  have c10 : W.cell? ⟨w.heap.size, 10, none⟩ = some (.string m.ename) := (cell_of hb 10).trans rfl
  have c11 : W.cell? ⟨w.heap.size, 11, none⟩ = some (.string m.name) := (cell_of hb 11).trans rfl
  have c12 : W.cell? ⟨w.heap.size, 12, none⟩ = some (.slice an m.names.length cn) := (cell_of hb 12).trans rfl
  have c13 : W.cell? ⟨w.heap.size, 13, none⟩ = some (.int .u8 m.qid.t) := (cell_of hb 13).trans rfl
  have c14 : W.cell? ⟨w.heap.size, 14, none⟩ = some (.int .u32 m.qid.v) := (cell_of hb 14).trans rfl
  have c15 : W.cell? ⟨w.heap.size, 15, none⟩ = some (.int .u64 m.qid.p) := (cell_of hb 15).trans rfl
  have c16 : W.cell? ⟨w.heap.size, 16, none⟩ = some (.slice aq m.qids.length cq) := (cell_of hb 16).trans rfl
  have c17 : W.cell? ⟨w.heap.size, 17, none⟩ = some (.int .u8 m.mode) := (cell_of hb 17).trans rfl
  have c18 : W.cell? ⟨w.heap.size, 18, none⟩ = some (.int .u32 m.perm) := (cell_of hb 18).trans rfl
  have c19 : W.cell? ⟨w.heap.size, 19, none⟩ = some (.int .u32 m.iounit) := (cell_of hb 19).trans rfl
  have c20 : W.cell? ⟨w.heap.size, 20, none⟩ = some (.int .u64 m.offset) := (cell_of hb 20).trans rfl
  have c21 : W.cell? ⟨w.heap.size, 21, none⟩ = some (.int .u32 m.count) := (cell_of hb 21).trans rfl
  have c22 : W.cell? ⟨w.heap.size, 22, none⟩ = some (.string m.data) := (cell_of hb 22).trans rfl
  have w_msize : IntKind.u64.wrap (m.msize : Int) = m.msize := by have := hk.msize; rw [IntKind.wrap_u64]; omega
  have b_msize : m.msize < 2 ^ 64 := by have := hk.msize; omega
  have w_fid : IntKind.u64.wrap (m.fid : Int) = m.fid := by have := hk.fid; rw [IntKind.wrap_u64]; omega
  have b_fid : m.fid < 2 ^ 64 := by have := hk.fid; omega
  have w_afid : IntKind.u64.wrap (m.afid : Int) = m.afid := by have := hk.afid; rw [IntKind.wrap_u64]; omega
  have b_afid : m.afid < 2 ^ 64 := by have := hk.afid; omega
  have w_newfid : IntKind.u64.wrap (m.newfid : Int) = m.newfid := by have := hk.newfid; rw [IntKind.wrap_u64]; omega
  have b_newfid : m.newfid < 2 ^ 64 := by have := hk.newfid; omega
  have w_oldtag : IntKind.u64.wrap (m.oldtag : Int) = m.oldtag := by have := hk.oldtag; rw [IntKind.wrap_u64]; omega
  have b_oldtag : m.oldtag < 2 ^ 64 := by have := hk.oldtag; omega
  have w_mode : IntKind.u64.wrap (m.mode : Int) = m.mode := by have := hk.mode; rw [IntKind.wrap_u64]; omega
  have b_mode : m.mode < 2 ^ 64 := by have := hk.mode; omega
  have w_perm : IntKind.u64.wrap (m.perm : Int) = m.perm := by have := hk.perm; rw [IntKind.wrap_u64]; omega
  have b_perm : m.perm < 2 ^ 64 := by have := hk.perm; omega
  have w_iounit : IntKind.u64.wrap (m.iounit : Int) = m.iounit := by have := hk.iounit; rw [IntKind.wrap_u64]; omega
  have b_iounit : m.iounit < 2 ^ 64 := by have := hk.iounit; omega
  have b_offset : m.offset < 2 ^ 64 := by have := hk.offset; omega
  have w_count : IntKind.u64.wrap (m.count : Int) = m.count := by have := hk.count; rw [IntKind.wrap_u64]; omega
  have b_count : m.count < 2 ^ 64 := by have := hk.count; omega
  obtain ⟨x1, hx1⟩ : ∃ x, m.msize ||| m.fid = x := ⟨_, rfl⟩
  have bx1 : x1 < 2 ^ 64 := by rw [← hx1]; exact Nat.or_lt_two_pow b_msize b_fid
  have o1 : bits BinOp.or IntKind.u64 (m.msize : Int) (m.fid : Int) = (x1 : Int) := by rw [u64_or_nat _ _ b_msize b_fid, hx1]
  obtain ⟨x2, hx2⟩ : ∃ x, x1 ||| m.afid = x := ⟨_, rfl⟩
  have bx2 : x2 < 2 ^ 64 := by rw [← hx2]; exact Nat.or_lt_two_pow bx1 b_afid
  have o2 : bits BinOp.or IntKind.u64 (x1 : Int) (m.afid : Int) = (x2 : Int) := by rw [u64_or_nat _ _ bx1 b_afid, hx2]
  obtain ⟨x3, hx3⟩ : ∃ x, x2 ||| m.newfid = x := ⟨_, rfl⟩
  have bx3 : x3 < 2 ^ 64 := by rw [← hx3]; exact Nat.or_lt_two_pow bx2 b_newfid
  have o3 : bits BinOp.or IntKind.u64 (x2 : Int) (m.newfid : Int) = (x3 : Int) := by rw [u64_or_nat _ _ bx2 b_newfid, hx3]
  obtain ⟨x4, hx4⟩ : ∃ x, x3 ||| m.oldtag = x := ⟨_, rfl⟩
  have bx4 : x4 < 2 ^ 64 := by rw [← hx4]; exact Nat.or_lt_two_pow bx3 b_oldtag
  have o4 : bits BinOp.or IntKind.u64 (x3 : Int) (m.oldtag : Int) = (x4 : Int) := by rw [u64_or_nat _ _ bx3 b_oldtag, hx4]
  obtain ⟨x5, hx5⟩ : ∃ x, x4 ||| m.mode = x := ⟨_, rfl⟩
  have bx5 : x5 < 2 ^ 64 := by rw [← hx5]; exact Nat.or_lt_two_pow bx4 b_mode
  have o5 : bits BinOp.or IntKind.u64 (x4 : Int) (m.mode : Int) = (x5 : Int) := by rw [u64_or_nat _ _ bx4 b_mode, hx5]
  obtain ⟨x6, hx6⟩ : ∃ x, x5 ||| m.perm = x := ⟨_, rfl⟩
  have bx6 : x6 < 2 ^ 64 := by rw [← hx6]; exact Nat.or_lt_two_pow bx5 b_perm
  have o6 : bits BinOp.or IntKind.u64 (x5 : Int) (m.perm : Int) = (x6 : Int) := by rw [u64_or_nat _ _ bx5 b_perm, hx6]
  obtain ⟨x7, hx7⟩ : ∃ x, x6 ||| m.iounit = x := ⟨_, rfl⟩
  have bx7 : x7 < 2 ^ 64 := by rw [← hx7]; exact Nat.or_lt_two_pow bx6 b_iounit
  have o7 : bits BinOp.or IntKind.u64 (x6 : Int) (m.iounit : Int) = (x7 : Int) := by rw [u64_or_nat _ _ bx6 b_iounit, hx7]
  obtain ⟨x8, hx8⟩ : ∃ x, x7 ||| m.offset = x := ⟨_, rfl⟩
  have bx8 : x8 < 2 ^ 64 := by rw [← hx8]; exact Nat.or_lt_two_pow bx7 b_offset
  have o8 : bits BinOp.or IntKind.u64 (x7 : Int) (m.offset : Int) = (x8 : Int) := by rw [u64_or_nat _ _ bx7 b_offset, hx8]
  obtain ⟨x9, hx9⟩ : ∃ x, x8 ||| m.count = x := ⟨_, rfl⟩
  have bx9 : x9 < 2 ^ 64 := by rw [← hx9]; exact Nat.or_lt_two_pow bx8 b_count
  have o9 : bits BinOp.or IntKind.u64 (x8 : Int) (m.count : Int) = (x9 : Int) := by rw [u64_or_nat _ _ bx8 b_count, hx9]
  have hors : m.ors = x9 := by unfold Msg.ors; rw [hx1, hx2, hx3, hx4, hx5, hx6, hx7, hx8, hx9]
  clear b_msize b_fid b_afid b_newfid b_oldtag b_mode b_perm b_iounit b_offset b_count bx1 hx1 bx2 hx2 bx3 hx3 bx4 hx4 bx5 hx5 bx6 hx6 bx7 hx7 bx8 hx8 bx9 hx9
  have s_version := hs.version
  have s_uname := hs.uname
  have s_aname := hs.aname
  have s_ename := hs.ename
  have s_name := hs.name
  have s_data := hs.data
  have hap : ∀ a b : ByteArray, (a ++ b).size = a.size + b.size := fun a b => ByteArray.size_append
  go_enter Tryz.func39, Tryz.ntmps39
  go_upto_region 3 with (fail)
  have hq1 : ∀ U, (binOp .eql 28 (.agg #[.int .u8 m.qid.t, .int .u32 m.qid.v, .int .u64 m.qid.p]) (.agg #[.int .u8 0, .int .u32 0, .int .u64 0])).run Tryz.prog U = .ok (.bool (decide (m.qid.t = 0 ∧ m.qid.v = 0 ∧ m.qid.p = 0))) U := eqQ0 m.qid
  have hst : ∀ U, (binOp .eql 31 (.agg #[.int .u16 m.stat.ty, .int .u32 m.stat.dev, .int .u8 m.stat.qt, .int .u32 m.stat.qv, .int .u64 m.stat.qp, .int .u32 m.stat.mo, .int .u32 m.stat.at_, .int .u32 m.stat.mt, .int .u64 m.stat.len, .string m.stat.n, .string m.stat.u, .string m.stat.g, .string m.stat.m]) (.agg #[.int .u16 0, .int .u32 0, .int .u8 0, .int .u32 0, .int .u64 0, .int .u32 0, .int .u32 0, .int .u32 0, .int .u64 0, .string { data := #[] }, .string { data := #[] }, .string { data := #[] }, .string { data := #[] }])).run Tryz.prog U = .ok (.bool (eqS m.stat ⟨0, 0, 0, 0, 0, 0, 0, 0, 0, ByteArray.empty, ByteArray.empty, ByteArray.empty, ByteArray.empty⟩)) U := fun U => eql_any m.stat St.zero U
  obtain ⟨T, hT⟩ : ∃ T, m.txts = T := ⟨_, rfl⟩
  have hT2 : m.version ++ m.uname ++ m.aname ++ m.ename ++ m.name ++ m.data = T := hT
  rw [hT2]
  have hTe := empty_beq' T
  have d0 : W.cell? ⟨w.heap.size, 23, none⟩ = some (.int .u16 m.stat.ty) := (cell_of hb 23).trans rfl
  have d1 : W.cell? ⟨w.heap.size, 24, none⟩ = some (.int .u32 m.stat.dev) := (cell_of hb 24).trans rfl
  have d2 : W.cell? ⟨w.heap.size, 25, none⟩ = some (.int .u8 m.stat.qt) := (cell_of hb 25).trans rfl
  have d3 : W.cell? ⟨w.heap.size, 26, none⟩ = some (.int .u32 m.stat.qv) := (cell_of hb 26).trans rfl
  have d4 : W.cell? ⟨w.heap.size, 27, none⟩ = some (.int .u64 m.stat.qp) := (cell_of hb 27).trans rfl
  have d5 : W.cell? ⟨w.heap.size, 28, none⟩ = some (.int .u32 m.stat.mo) := (cell_of hb 28).trans rfl
  have d6 : W.cell? ⟨w.heap.size, 29, none⟩ = some (.int .u32 m.stat.at_) := (cell_of hb 29).trans rfl
  have d7 : W.cell? ⟨w.heap.size, 30, none⟩ = some (.int .u32 m.stat.mt) := (cell_of hb 30).trans rfl
  have d8 : W.cell? ⟨w.heap.size, 31, none⟩ = some (.int .u64 m.stat.len) := (cell_of hb 31).trans rfl
  have d9 : W.cell? ⟨w.heap.size, 32, none⟩ = some (.string m.stat.n) := (cell_of hb 32).trans rfl
  have d10 : W.cell? ⟨w.heap.size, 33, none⟩ = some (.string m.stat.u) := (cell_of hb 33).trans rfl
  have d11 : W.cell? ⟨w.heap.size, 34, none⟩ = some (.string m.stat.g) := (cell_of hb 34).trans rfl
  have d12 : W.cell? ⟨w.heap.size, 35, none⟩ = some (.string m.stat.m) := (cell_of hb 35).trans rfl
  have HV : Hid (emptyM m = (decide (x9 = 0) && (decide (T.size = 0) && (decide (m.names.length + m.qids.length = 0) && (decide (m.qid.t = 0 ∧ m.qid.v = 0 ∧ m.qid.p = 0) && eqS m.stat ⟨0, 0, 0, 0, 0, 0, 0, 0, 0, ByteArray.empty, ByteArray.empty, ByteArray.empty, ByteArray.empty⟩))))) := by
    show _ = _
    unfold emptyM
    rw [hors, hT]
    rfl
  have nl := hs.nl
  have ql := hs.ql
  clear hT hT2 hors w_msize w_fid w_afid w_newfid w_oldtag w_mode w_perm w_iounit w_count o1 o2 o3 o4 o5 o6 o7 o8 o9 s_version s_uname s_aname s_ename s_name s_data hap c2 c3 c4 c5 c6 c7 c8 c9 c10 c11 c17 c18 c19 c20 c21 c22 hW hb
  generalize decide (m.qid.t = 0 ∧ m.qid.v = 0 ∧ m.qid.p = 0) = dq at *
  generalize eqS m.stat ⟨0, 0, 0, 0, 0, 0, 0, 0, 0, ByteArray.empty, ByteArray.empty, ByteArray.empty, ByteArray.empty⟩ = es at *
  by_cases hA : x9 = 0
  · have tA : ((x9 : Int) == 0) = true := by simp [hA]
    by_cases hB : T.size = 0
    · have tB : T.toList.isEmpty = true := by rw [hTe]; simp [hB]
      by_cases hC : m.names.length + m.qids.length = 0
      · have tC : ((m.names.length : Int) + (m.qids.length : Int) == 0) = true := by simp; omega
        cases dq
        · have HF : Hid (emptyM m = false) := by
            show _ = _
            rw [HV.out]
            simp [hA]
          clear hTe HV
          clear hA
          go_wp2
          go_ret
          exact ⟨by rw [HF.out]; rfl, m0⟩
        · have HF : Hid (emptyM m = es) := by
            show _ = _
            rw [HV.out, decide_eq_true hC]
            simp [hA, hB]
          clear hTe HV hA hB hC
          go_wp2
          go_ret
          exact ⟨by rw [HF.out]; rfl, m0⟩
      · have tC : ((m.names.length : Int) + (m.qids.length : Int) == 0) = false := by simp; omega
        have HF : Hid (emptyM m = false) := by
          show _ = _
          rw [HV.out, decide_eq_false hC]
          simp
        clear hTe HV hA hB hC
        go_wp2
        go_ret
        exact ⟨by rw [HF.out]; rfl, m0⟩
    · have tB : T.toList.isEmpty = false := by rw [hTe]; simp [hB]
      have HF : Hid (emptyM m = false) := by
        show _ = _
        rw [HV.out]
        simp [hB]
      clear hTe HV
      clear hB
      go_wp2
      go_ret
      exact ⟨by rw [HF.out]; rfl, m0⟩
  · have tA : ((x9 : Int) == 0) = false := by simp [hA]
    have HF : Hid (emptyM m = false) := by
      show _ = _
      rw [HV.out]
      simp [hA]
    clear hTe HV
    clear hA
    go_wp2
    go_ret
    exact ⟨by rw [HF.out]; rfl, m0⟩
end Go.Proofs.YtklpopmjpgdjnaaGreatDoor
namespace Go.Proofs.YtklpopmjpgdjnaaGreatDoor

/-- what package wire's Encode answers -/
def encM (m : Msg) : ByteArray × Int :=
  match fieldsOf m.ty with
  | none => (ByteArray.empty, 240)
  | some l =>
    if emptyM (l.foldl Fld.clear m) = false then (ByteArray.empty, 2)
    else if plainM m = false then (ByteArray.empty, 241)
    else if (l.foldl (Fld.wr m) ([], false)).2 = true ∨ 8192 < (l.foldl (Fld.wr m) ([], false)).1.length + 7 then (ByteArray.empty, 4)
    else (bs (leBytes 4 ((l.foldl (Fld.wr m) ([], false)).1.length + 7) ++ leBytes 1 m.ty ++ leBytes 2 m.tag ++ (l.foldl (Fld.wr m) ([], false)).1), 0)
theorem St.zero_ok : St.zero.Ok := ⟨by decide, by decide, by decide, by decide, by decide, by decide, by decide, by decide, by decide⟩
theorem Qd.zero_ok : Qd.zero.Ok := ⟨by decide, by decide, by decide⟩
theorem clear_ok {m : Msg} (h : m.Ok) (f : Fld) : (Fld.clear m f).Ok := by
  obtain ⟨h0, h1, h2, h3, h4, h5, h6, h7, h8, h9, h10, h11, h12, h13, h14⟩ := h
  cases f
  all_goals
    refine ⟨?_, ?_, ?_, ?_, ?_, ?_, ?_, ?_, ?_, ?_, ?_, ?_, ?_, ?_, ?_⟩
  all_goals first
    | assumption
    | exact (show (0 : Nat) < _ by decide)
    | exact Qd.zero_ok
    | exact fun q hq => (by cases hq)
    | exact St.zero_ok
theorem clear_small {m : Msg} (h : m.Small) (f : Fld) : (Fld.clear m f).Small := by
  obtain ⟨h0, h1, h2, h3, h4, h5, h6, h7, h8, h9⟩ := h
  cases f
  all_goals
    refine ⟨?_, ?_, ?_, ?_, ?_, ?_, ?_, ?_, ?_, ?_⟩
  all_goals first
    | assumption
    | exact Nat.zero_le _
    | exact ⟨Nat.zero_le _, Nat.zero_le _, Nat.zero_le _, Nat.zero_le _⟩
    | exact fun q hq => (by cases hq)
theorem clears_ok (l : List Fld) {m : Msg} (h : m.Ok) : (l.foldl Fld.clear m).Ok := by
  induction l generalizing m with
  | nil => exact h
  | cons f l ih => exact ih (clear_ok h f)
theorem clears_small (l : List Fld) {m : Msg} (h : m.Small) : (l.foldl Fld.clear m).Small := by
  induction l generalizing m with
  | nil => exact h
  | cons f l ih => exact ih (clear_small h f)
end Go.Proofs.YtklpopmjpgdjnaaGreatDoor
