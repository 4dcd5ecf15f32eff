/- Two stats, alike or not. -/
import Derived.Test.YtklpopmjpgdjnaaGreatDoorQGa
set_option linter.unusedVariables false
set_option linter.unusedSimpArgs false
namespace Go.Proofs.YtklpopmjpgdjnaaGreatDoor
open Go.RowKit

def eqS (s t : St) : Bool := s.ty == t.ty && (s.dev == t.dev && ((s.qt == t.qt && (s.qv == t.qv && s.qp == t.qp)) && (s.mo == t.mo && (s.at_ == t.at_ && (s.mt == t.mt && (s.len == t.len && (s.n.toList == t.n.toList && (s.u.toList == t.u.toList && (s.g.toList == t.g.toList && s.m.toList == t.m.toList)))))))))
theorem toList_inj {a b : ByteArray} (h : a.toList = b.toList) : a = b := by
  rw [ByteArray.toList_eq, ByteArray.toList_eq] at h
  exact ByteArray.ext (Array.toList_inj.1 h)
theorem eqS_iff (s t : St) : eqS s t = true ↔ s = t := by
  constructor
  · intro h
    simp only [eqS, Bool.and_eq_true, beq_iff_eq] at h
    obtain ⟨h0, h1, ⟨h2, h3, h4⟩, h5, h6, h7, h8, h9, h10, h11, h12⟩ := h
    obtain ⟨a0, a1, a2, a3, a4, a5, a6, a7, a8, a9, a10, a11, a12⟩ := s
    obtain ⟨b0, b1, b2, b3, b4, b5, b6, b7, b8, b9, b10, b11, b12⟩ := t
    simp only at *
    rw [h0, h1, h2, h3, h4, h5, h6, h7, h8, toList_inj h9, toList_inj h10, toList_inj h11, toList_inj h12]
  · rintro rfl
    simp [eqS]
theorem ibeq (a b : Nat) : ((a : Int) == (b : Int)) = (a == b) := by
  by_cases h : a = b
  · subst h; simp
  · have : ((a : Int) == (b : Int)) = false := by simp; omega
    rw [this]; simp [h]
theorem if_ok {p : Prop} [Decidable p] (B : Bool) (w : World) : (if p then Result.ok B w else Result.ok false w) = Result.ok (decide p && B) w := by
  by_cases h : p <;> simp [h]
theorem Nat.beq_eq_decide (a b : Nat) : (a == b) = decide (a = b) := by by_cases h : a = b <;> simp [h]
theorem lbeq (a b : List UInt8) : (a == b) = decide (a = b) := by by_cases h : a = b <;> simp [h]
theorem decide_ncast (a b : Nat) : decide ((a : Int) = (b : Int)) = decide (a = b) := by simp [Int.natCast_inj]
set_option maxHeartbeats 1000000 in
theorem equal_run (s t : St) (w : World) : (Op.equalIn 10000 31 s.v t.v).run Tryz.prog w = .ok (eqS s t) w := by
  have ht : Tryz.prog.underlying 31 = some (.struct (Tryz.prog.fieldsOf 31)) := by kernel_rfl
  have hp : Tryz.prog.stoodInHeld 31 = false := by kernel_rfl
  have ht2 : Tryz.prog.underlying 28 = some (.struct (Tryz.prog.fieldsOf 28)) := by kernel_rfl
  have hp2 : Tryz.prog.stoodInHeld 28 = false := by kernel_rfl
  unfold St.v St.cells
  rw [show (10000 : Nat) = 9999 + 1 from rfl, run_equalIn_agg w 9999 _ _ _ ht hp]
  simp [go_sem, Op.eqFields]
  simp only [if_ok]
  simp only [eqS, Nat.beq_eq_decide, lbeq, Int.natCast_inj, Bool.and_assoc, Bool.and_true]
theorem eql_any (s t : St) (w : World) : (binOp .eql 31 s.v t.v).run Tryz.prog w = .ok (.bool (eqS s t)) w := by
  show (binOp .eql 31 (.agg _) (.agg _)).run Tryz.prog w = _
  rw [run_eql_struct, show (Op.equalIn 10000 31 (.agg s.cells.toArray) (.agg t.cells.toArray)).run Tryz.prog w = _ from equal_run s t w]
  rfl
theorem neq_any (s t : St) (w : World) : (binOp .neq 31 s.v t.v).run Tryz.prog w = .ok (.bool (!eqS s t)) w := by
  show (binOp .neq 31 (.agg _) (.agg _)).run Tryz.prog w = _
  rw [run_neq_struct, show (Op.equalIn 10000 31 (.agg s.cells.toArray) (.agg t.cells.toArray)).run Tryz.prog w = _ from equal_run s t w]
  rfl
end Go.Proofs.YtklpopmjpgdjnaaGreatDoor
