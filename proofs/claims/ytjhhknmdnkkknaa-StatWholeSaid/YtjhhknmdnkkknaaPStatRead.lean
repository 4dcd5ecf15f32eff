/- A stat read, plain. -/
import Derived.Test.YtjhhknmdnkkknaaPStat
namespace Go.Proofs.Ytjhhknmdnkkknaa

def St.zero : St := ⟨0, 0, 0, 0, 0, 0, 0, 0, 0, ByteArray.empty, ByteArray.empty, ByteArray.empty, ByteArray.empty⟩
/-- so many texts, one behind the other -/
def Rd.tq (q : Rd) : Nat → Rd
  | 0 => q
  | k + 1 => (Rd.tq q k).text.2
def St.nq (q : Rd) : Rd := (((((((((q.num 2).2.num 4).2.num 1).2.num 4).2.num 8).2.num 4).2.num 4).2.num 4).2.num 8).2
def St.read (q : Rd) : St :=
  let a := q.num 2
  let b := a.2.num 4
  let c := b.2.num 1
  let d := c.2.num 4
  let e := d.2.num 8
  let f := e.2.num 4
  let g := f.2.num 4
  let h := g.2.num 4
  let i := h.2.num 8
  ⟨a.1, b.1, c.1, d.1, e.1, f.1, g.1, h.1, i.1, (i.2.tq 0).text.1, (i.2.tq 1).text.1, (i.2.tq 2).text.1, (i.2.tq 3).text.1⟩
theorem St.read_ok (q : Rd) : (St.read q).Ok := ⟨Rd.num_lt _ 2, Rd.num_lt _ 4, Rd.num_lt _ 1, Rd.num_lt _ 4, Rd.num_lt _ 8, Rd.num_lt _ 4, Rd.num_lt _ 4, Rd.num_lt _ 4, Rd.num_lt _ 8⟩
def nextS (b : ByteArray) : St × Nat × Int :=
  if (((Rd.mk b 0 0).num 2).2.bytes ((Rd.mk b 0 0).num 2).1).2.f ≠ 0 then (St.zero, 0, 50)
  else if ((St.nq ⟨(((Rd.mk b 0 0).num 2).2.bytes ((Rd.mk b 0 0).num 2).1).1, 0, 0⟩).tq 4).end_ ≠ 0 then (St.zero, 0, 51)
  else (St.read ⟨(((Rd.mk b 0 0).num 2).2.bytes ((Rd.mk b 0 0).num 2).1).1, 0, 0⟩, (((Rd.mk b 0 0).num 2).2.bytes ((Rd.mk b 0 0).num 2).1).2.at_, 0)
theorem Rd.tq_s (q : Rd) (k : Nat) : (q.tq k).s = q.s := by
  induction k with
  | zero => rfl
  | succ k ih => exact (Rd.text_s _).trans ih
theorem Rd.tq_at (q : Rd) (k : Nat) (h : q.at_ ≤ q.s.size) : (q.tq k).at_ ≤ (q.tq k).s.size := by
  induction k with
  | zero => exact h
  | succ k ih => exact Rd.text_at _ ih
def decS (b : ByteArray) : St × Int := if (nextS b).2.2 ≠ 0 then (St.zero, (nextS b).2.2) else if (nextS b).2.1 ≠ b.size then (St.zero, 51) else ((nextS b).1, 0)
theorem nextS_ok (b : ByteArray) : (nextS b).1.Ok := by
  unfold nextS
  split
  · exact ⟨by decide, by decide, by decide, by decide, by decide, by decide, by decide, by decide, by decide⟩
  · split
    · exact ⟨by decide, by decide, by decide, by decide, by decide, by decide, by decide, by decide, by decide⟩
    · exact St.read_ok _
end Go.Proofs.Ytjhhknmdnkkknaa
