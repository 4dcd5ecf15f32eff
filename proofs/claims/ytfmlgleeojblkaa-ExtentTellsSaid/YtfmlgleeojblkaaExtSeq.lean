/- Pieces: what it hands back, at any extent and any range. -/
import Derived.Test.YtfmlgleeojblkaaExtIter
namespace Go.Proofs.Ytfmlgleeojblkaa
open Go.RowKit Go.Shelf
attribute [local go_sem] Oper.semAt_some

def okR (X c off n : Int) : Bool := mayB X c && decide (0 ≤ off) && decide (0 ≤ n) && decide (n ≤ ((448 * nblk c : Nat) : Int)) && decide (off ≤ ((448 * nblk c : Nat) : Int) - n)
def piecesT (X c off n : Int) : List Pc := if okR X c off n = true then pcs X off.toNat n.toNat (n.toNat + 1) 0 else []
theorem mayB_lo {X c : Int} (h : mayB X c = true) : 0 ≤ X ∧ X ≤ 16384 := by
  simp only [mayB, Bool.or_eq_true, Bool.and_eq_true, decide_eq_true_eq] at h
  omega

def I64 (x : Int) : Prop := -9223372036854775808 ≤ x ∧ x ≤ 9223372036854775807

set_option maxRecDepth 100000 in
set_option maxHeartbeats 2000000 in
theorem pieces1_no (m : Nat) (l Bx Bo Bn : Nat) (X c off n : Int) (hok : okR X c off n = false) (hX : I64 X) (hc : I64 c) (J Jx : List Pc → World → Prop)
    (W : World) (hJ : AbidesFrom W.heap.size J)
    (hbx : W.heap[Bx]? = some (.cells #[.int .i64 X, .int .i64 c] 23 (0, 0))) (hbo : W.heap[Bo]? = some (.cells #[.int .i64 off] 3 (0, 0))) (hbn : W.heap[Bn]? = some (.cells #[.int .i64 n] 3 (0, 0)))
    (h0 : J [] W) :
    CallsIn Fence.wide m Try.prog 29 #[.func (.yield l) #[] #[], .pointer (some ⟨Bx, 0, none⟩), .pointer (some ⟨Bo, 0, none⟩), .pointer (some ⟨Bn, 0, none⟩)] W fun e W' => (∃ v, e = .returned v) ∧
      ((∃ ys, ys = [] ∧ J ys W') ∨ (∃ pre, pre <+: [] ∧ Jx pre W')) := by
  obtain ⟨R, hR⟩ : ∃ R, 448 * nblk c = R := ⟨_, rfl⟩
  have hRm : R ≤ 7168 := by have := nblk_le c; omega
  have hroom := fun W => room_any c W
  unfold okR at hok
  rw [hR] at hroom hok
  have hmayc := fun W => may_any X c W hX hc
  have c0 : W.cell? ⟨Bx, 0, none⟩ = some (.int .i64 X) := (cell_of hbx 0).trans rfl
  have c1 : W.cell? ⟨Bx, 1, none⟩ = some (.int .i64 c) := (cell_of hbx 1).trans rfl
  refine callsIn_of_wp Try.func29 rfl trivial ?_ rfl
  simp only [Try.ntmps29, List.size_toArray, List.length_cons, List.length_nil, Nat.reduceAdd, Nat.reduceSub, Array.replicate_succ, Array.replicate_zero, List.push_toArray, List.append_toArray, List.nil_append, List.cons_append]
  gi_wp2_with fail
  refine ⟨trivial, fun h => (by cases h), (callsIn_wide.2 (hroom _)).mono ?_⟩
  rintro e W ⟨rfl, rfl⟩
  gi_wp2_with fail
  refine ⟨trivial, fun h => (by cases h), (callsIn_wide.2 (hmayc _)).mono ?_⟩
  rintro e w1 ⟨rfl, m1⟩
  have hbo1 := (m1.block _ (lt_of hbo) (fun x => x)).trans hbo
  have hbn1 := (m1.block _ (lt_of hbn) (fun x => x)).trans hbn
  have HJ : Hid (J [] w1) := hJ _ _ _ none h0 (grown_of_mod m1) (fun r e => by cases e)
  have d2 : w1.cell? ⟨Bo, 0, none⟩ = some (.int .i64 off) := (cell_of hbo1 0).trans rfl
  have d3 : w1.cell? ⟨Bn, 0, none⟩ = some (.int .i64 n) := (cell_of hbn1 0).trans rfl
  clear hroom hmayc c0 c1 hbx hbo hbn h0 m1 hbo1 hbn1
  cases hmb : mayB X c with
  | false => gi_wp2
             refine bodyPost_ret (results_none rfl _ _ _) rfl ?_
             exact ⟨⟨_, rfl⟩, .inl ⟨[], rfl, HJ.out⟩⟩
  | true =>
    rw [hmb] at hok
    by_cases g1 : off < 0
    · have t1 : decide (off < 0) = true := by simp [g1]
      gi_wp2
      refine bodyPost_ret (results_none rfl _ _ _) rfl ?_
      exact ⟨⟨_, rfl⟩, .inl ⟨[], rfl, HJ.out⟩⟩
    have t1 : decide (off < 0) = false := by simp; omega
    by_cases g2 : n < 0
    · have t2 : decide (n < 0) = true := by simp [g2]
      gi_wp2
      refine bodyPost_ret (results_none rfl _ _ _) rfl ?_
      exact ⟨⟨_, rfl⟩, .inl ⟨[], rfl, HJ.out⟩⟩
    have t2 : decide (n < 0) = false := by simp; omega
    by_cases g3 : (R : Int) < n
    · have t3 : decide ((R : Int) < n) = true := by simp [g3]
      gi_wp2
      refine bodyPost_ret (results_none rfl _ _ _) rfl ?_
      exact ⟨⟨_, rfl⟩, .inl ⟨[], rfl, HJ.out⟩⟩
    have t3 : decide ((R : Int) < n) = false := by simp; omega
    have t4 : decide ((R : Int) - n < off) = true := by
      simp only [Bool.true_and, Bool.and_eq_false_iff, decide_eq_false_iff_not] at hok
      simp
      omega
    gi_wp2
    refine bodyPost_ret (results_none rfl _ _ _) rfl ?_
    exact ⟨⟨_, rfl⟩, .inl ⟨[], rfl, HJ.out⟩⟩

/-- Pieces hands back a value that the law of ranges takes -/
theorem pieces_stops (m : Nat) (Bx Bo Bn L : Nat) (X c off n : Int) (hX : I64 X) (hc : I64 c) (w : World)
    (hbx : w.heap[Bx]? = some (.cells #[.int .i64 X, .int .i64 c] 23 (0, 0))) (hbo : w.heap[Bo]? = some (.cells #[.int .i64 off] 3 (0, 0))) (hbn : w.heap[Bn]? = some (.cells #[.int .i64 n] 3 (0, 0)))
    (hL : ownOf L w = none) (hne : L ≠ Bx ∧ L ≠ Bo ∧ L ≠ Bn) (hLl : L < w.heap.size) :
    SeqStopsK Fence.wide m Try.prog 29 #[.pointer (some ⟨Bx, 0, none⟩), .pointer (some ⟨Bo, 0, none⟩), .pointer (some ⟨Bn, 0, none⟩)] (fun x : Pc => #[x.v]) (KeepL L)
      (fun ys => ys = piecesT X c off n) (fun pre => pre <+: piecesT X c off n) (n.toNat + 1) w := fun l J Jx W hW hJ _ hY h0 => by
  have kx := (hW.block _ (lt_of hbx)).trans hbx
  have ko := (hW.block _ (lt_of hbo)).trans hbo
  have kn := (hW.block _ (lt_of hbn)).trans hbn
  cases hok : okR X c off n with
  | false =>
    rw [show piecesT X c off n = [] from by unfold piecesT; rw [hok]; rfl]
    exact pieces1_no m l Bx Bo Bn X c off n hok hX hc J Jx W hJ kx ko kn h0
  | true =>
    rw [show piecesT X c off n = pcs X off.toNat n.toNat (n.toNat + 1) 0 from by unfold piecesT; rw [if_pos hok]]
    simp only [okR, Bool.and_eq_true, decide_eq_true_eq] at hok
    obtain ⟨⟨⟨⟨hm, h1⟩, h2⟩, h3⟩, h4⟩ := hok
    obtain ⟨o', rfl⟩ : ∃ o' : Nat, off = o' := ⟨off.toNat, by omega⟩
    obtain ⟨n', rfl⟩ : ∃ n' : Nat, n = n' := ⟨n.toNat, by omega⟩
    rw [Int.toNat_natCast, Int.toNat_natCast]
    rw [Int.toNat_natCast] at hY
    exact pieces1_ok m l Bx Bo Bn L X c o' n' hm (by omega) (mayB_lo hm) hc J Jx hY W hJ kx ko kn ((ownOf_block (hW.block _ hLl)).trans hL) hne (Nat.lt_of_lt_of_le hLl hW.size) h0

theorem Pieces_any (X c off n : Int) (w : World) : Calls Try.prog 7 #[.agg #[.int .i64 X, .int .i64 c], .int .i64 off, .int .i64 n] w fun e w' =>
    e = .returned (.func (.func 29) #[] #[.pointer (some ⟨w.heap.size, 0, none⟩), .pointer (some ⟨w.heap.size + 1, 0, none⟩), .pointer (some ⟨w.heap.size + 2, 0, none⟩)]) ∧
      w' = ((w.alloc (.cells #[.int .i64 X, .int .i64 c] 23)).alloc (.cells #[.int .i64 off] 3)).alloc (.cells #[.int .i64 n] 3) := by
  go_enter Try.func7, Try.ntmps7
  go_wp2
  go_ret
  exact ⟨rfl, rfl⟩
end Go.Proofs.Ytfmlgleeojblkaa
