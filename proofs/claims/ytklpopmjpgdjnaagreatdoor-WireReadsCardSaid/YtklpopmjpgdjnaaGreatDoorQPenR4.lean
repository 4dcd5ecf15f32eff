/- Package wire's pen, reading: stats into a message. -/
import Derived.Test.YtklpopmjpgdjnaaGreatDoorQPenR3
set_option linter.unusedVariables false
set_option linter.unusedSimpArgs false
namespace Go.Proofs.YtklpopmjpgdjnaaGreatDoor
open Go.RowKit

/-- what is read is put into the thirteen cells of a stat -/
structure PutS (w w' : World) (F : Nat → Prop) (bp br bx i : Nat) (s : St) (r' : Rd) (out : List UInt8) (lg wg : Bool) : Prop where
  rd : w'.heap[br]? = some (rdO r')
  md : Mod (fun k => (k = br ∨ k = bx) ∨ F k) w w'
  obj : ∀ cs T, w.heap[bx]? = some (.cells cs T (0, 0)) → w'.heap[bx]? = some (.cells (cs.toList.take i ++ s.cells ++ cs.toList.drop (i + 13)).toArray T (0, 0))
  pen : PenAt w' F bp 1 out br lg wg
set_option maxHeartbeats 1000000 in
theorem on_stat_r (bp br bx i bb : Nat) (F : Nat → Prop) (out : List UInt8) (lg wg : Bool) (r : Rd) (cs : Array Value) (T : TypeId) (wf : Value) (w : World) (h : PenAt w F bp 1 out br lg wg) (hc : w.cell? ⟨bb, 0, none⟩ = some (.pointer (some ⟨bp, 0, none⟩))) (hbb : bb ≠ br) (hbF : ¬ F bb) (hF : ∀ k, F k → k ≠ br ∧ k ≠ bx) (hb : w.heap[bx]? = some (.cells cs T (0, 0))) (hi : i + 13 ≤ cs.size) (hne : bx ≠ br) (hr : w.heap[br]? = some (rdO r)) (hok : r.s.size ≤ maxLen ∧ r.at_ ≤ r.s.size) :
    Calls Tryz.prog 124 #[.pointer (some ⟨bp, 0, none⟩), .pointer (some ⟨bx, i, none⟩), wf, .func (.func 127) #[] #[.pointer (some ⟨bb, 0, none⟩)]] w fun e w' => e = .returned (.tuple #[]) ∧ PutS w w' F bp br bx i (decS (rdStatB r).1).1 (rdStatB r).2 out lg (wg || decide ((decS (rdStatB r).1).2 ≠ 0)) := by
  obtain ⟨c0, _, _, _, _, _⟩ := h.cells
  have hU := stat2_r bp br bb F out lg wg r w h hc hbb hbF (fun k hk => (hF k hk).1) hr hok
  have hlt := lt_of hb
  have HB := Lib.hid hb
  generalize decS (rdStatB r).1 = D at *
  obtain ⟨s, de⟩ := D
  simp only at hU ⊢
  have hsz := st_len s
  clear h hb hr hok hc
  go_enter Tryz.func124, Tryz.ntmps124
  go_wp2_with fail
  refine hU.mono ?_
  rintro e w1 ⟨rfl, h1, p1, m1⟩
  have hb1 := (m1.block bx hlt (fun x => by rcases x with e | x; exact hne e; exact (hF bx x).2 rfl)).trans HB.out
  obtain ⟨w2, hst, hb2, m2⟩ := st_part (P := Tryz.prog) w1 bx i T s.cells cs hb1 (by rw [hsz]; exact hi) (st_one s)
  have HR := Lib.hid ((m2.block br (lt_of h1) (fun e => hne e.symm)).trans h1)
  have HP := Lib.hid (p1.mod m2 (fun k hk x => (hF k x).2 hk))
  have HM : Hid (Mod (fun k => (k = br ∨ k = bx) ∨ F k) w w2) := (m1.mono fun k _ x => by rcases x with e | x; exact Or.inl (Or.inl e); exact Or.inr x).trans' m2 fun k _ e => Or.inl (Or.inr e)
  have HB2 := Lib.hid hb2
  clear hU h1 p1 m1 hb1 hb2 m2
  go_wp2
  go_end0
  refine ⟨rfl, HR.out, HM.out, fun cs' T' h' => ?_, HP.out⟩
  rw [HB.out] at h'
  injection h' with h'
  injection h' with e1 e2
  subst e1 e2
  rw [hsz] at HB2
  exact HB2.out
theorem PutS.ahead {w w1 w2 : World} {F : Nat → Prop} {bp br bx i : Nat} {s : St} {r' : Rd} {out : List UInt8} {lg wg : Bool} (m : Mod (fun _ => False) w w1) (hlt : bx < w.heap.size) (h : PutS w1 w2 F bp br bx i s r' out lg wg) : PutS w w2 F bp br bx i s r' out lg wg :=
  ⟨h.rd, (m.mono fun _ _ x => x.elim).trans h.md, fun cs T hb => h.obj cs T ((m.block bx hlt (fun x => x)).trans hb), h.pen⟩
set_option maxHeartbeats 1000000 in
theorem pstat_r (bp br bx i : Nat) (F : Nat → Prop) (out : List UInt8) (lg wg : Bool) (r : Rd) (cs : Array Value) (T : TypeId) (w : World) (h : PenAt w F bp 1 out br lg wg) (hF : ∀ k, F k → k ≠ br ∧ k ≠ bx) (hb : w.heap[bx]? = some (.cells cs T (0, 0))) (hi : i + 13 ≤ cs.size) (hne : bx ≠ br) (hr : w.heap[br]? = some (rdO r)) (hok : r.s.size ≤ maxLen ∧ r.at_ ≤ r.s.size) :
    Calls Tryz.prog 101 #[.pointer (some ⟨bp, 0, none⟩), .pointer (some ⟨bx, i, none⟩)] w fun e w' => e = .returned (.tuple #[]) ∧ PutS w w' F bp br bx i (decS (rdStatB r).1).1 (rdStatB r).2 out lg (wg || decide ((decS (rdStatB r).1).2 ≠ 0)) := by
  obtain ⟨W, hW⟩ : ∃ W, w.alloc (.cells #[.pointer (some ⟨bp, 0, none⟩)] 63) = W := ⟨_, rfl⟩
  have m0 : Mod (fun _ => False) w W := by subst hW; exact (Mod.refl _ _).alloc _
  have hbb : W.heap[w.heap.size]? = some (.cells #[.pointer (some ⟨bp, 0, none⟩)] 63 (0, 0)) := by subst hW; exact new_at _ _
  have hb0 : W.cell? ⟨w.heap.size, 0, none⟩ = some (.pointer (some ⟨bp, 0, none⟩)) := (cell_of hbb 0).trans rfl
  have hlt := lt_of hb
  have hrl := lt_of hr
  have hO := fun wf => on_stat_r bp br bx i w.heap.size F out lg wg r cs T wf W (h.mod m0 (fun _ x => x.elim)) hb0 (by omega) (fun x => by have := h.lt _ x; omega) hF ((m0.block bx hlt (fun x => x)).trans hb) hi hne ((m0.block br hrl (fun x => x)).trans hr) hok
  have M0 := Lib.hid m0
  clear h hb m0 hbb hr hok
  go_enter Tryz.func101, Tryz.ntmps101
  go_wp2_with fail
  refine (hO _).mono ?_
  rintro e w2 ⟨rfl, hp⟩
  go_wp2
  go_end0
  exact ⟨rfl, hp.ahead M0.out hlt⟩
end Go.Proofs.YtklpopmjpgdjnaaGreatDoor
