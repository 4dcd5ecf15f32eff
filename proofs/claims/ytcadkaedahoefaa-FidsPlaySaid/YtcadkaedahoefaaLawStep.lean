/- Scripts of steps; numbers and what they stand for, alike or not. -/
import Derived.Test.YtcadkaedahoefaaLawAsk
import Derived.Test.YtcadkaedahoefaaPTab
namespace Go.Proofs.Ytcadkaedahoefaa
open Go.ChangeShapes Go.WideShapes Go.ChangeAt Go.RowKit

structure Stp where
  dof : Int
  n : Nat
  q : Fd
def Stp.cells (s : Stp) : List Value := [.int .i64 s.dof, .int .u32 s.n, .int .u64 s.q.path, .string s.q.who, .bool s.q.opn, .int .u8 s.q.mode, .int .u64 s.q.next]
def Fd.cells (q : Fd) : List Value := [.int .u64 q.path, .string q.who, .bool q.opn, .int .u8 q.mode, .int .u64 q.next]
theorem list5 {α : Type} (l : List α) (h : l.length = 5) : ∃ c0 c1 c2 c3 c4, l = [c0, c1, c2, c3, c4] := by
  match l, h with
  | [c0, c1, c2, c3, c4], _ => exact ⟨_, _, _, _, _, rfl⟩
theorem list7 {α : Type} (l : List α) (h : l.length = 7) : ∃ c0 c1 c2 c3 c4 c5 c6, l = [c0, c1, c2, c3, c4, c5, c6] := by
  match l, h with
  | [c0, c1, c2, c3, c4, c5, c6], _ => exact ⟨_, _, _, _, _, _, _, rfl⟩
set_option maxRecDepth 100000 in
set_option maxHeartbeats 2000000 in
theorem trod_fid {H : Type} {enc : TypeId × Value → H} {W : World} {fuel : Nat} {cs : List Value} {x : DataW H × List MemPlace} (h : DataW.trod enc Try.prog W 0 (fun _ => true) true fuel 59 cs = some x) :
    ∃ q : Fd, cs = q.cells := by
  obtain ⟨xs, fu, rfl, rfl, hl, hlen, hf⟩ := DataW.trod_struct Try.underlying59 h
  rw [show Try.prog.cellsOf 59 = 5 from by kernel_rfl] at hl
  obtain ⟨c0, c1, c2, c3, c4, rfl⟩ := list5 cs hl
  obtain ⟨y0, y1, y2, y3, y4, rfl⟩ := list5 xs hlen
  have gc0 : DataW.trod enc Try.prog W 0 (fun _ => true) true fu 57 [c0] = some y0 := by
    have h : DataW.trod enc Try.prog W 0 (fun _ => true) true fu 57 (List.take (Try.prog.cellsOf 57) (List.drop 0 [c0, c1, c2, c3, c4])) = some y0 := hf 0 _ rfl
    rw [show Try.prog.cellsOf 57 = 1 from by kernel_rfl] at h
    exact h
  obtain ⟨xc0, ec0, _, wc0⟩ := DataW.trod_int Try.underlying57 gc0
  obtain ⟨a0, rfl, b0⟩ := wf_lt (m := 18446744073709551615) wc0 rfl rfl
  obtain rfl : c0 = .int .u64 a0 := by simpa using ec0
  clear gc0 ec0 wc0
  have gc1 : DataW.trod enc Try.prog W 0 (fun _ => true) true fu 9 [c1] = some y1 := by
    have h : DataW.trod enc Try.prog W 0 (fun _ => true) true fu 9 (List.take (Try.prog.cellsOf 9) (List.drop 1 [.int .u64 a0, c1, c2, c3, c4])) = some y1 := hf 1 _ rfl
    rw [show Try.prog.cellsOf 9 = 1 from by kernel_rfl] at h
    exact h
  obtain ⟨a1, ec1, _, _⟩ := DataW.trod_string Try.underlying9 gc1
  obtain rfl : c1 = .string a1 := by simpa using ec1
  clear gc1 ec1
  have gc2 : DataW.trod enc Try.prog W 0 (fun _ => true) true fu 4 [c2] = some y2 := by
    have h : DataW.trod enc Try.prog W 0 (fun _ => true) true fu 4 (List.take (Try.prog.cellsOf 4) (List.drop 2 [.int .u64 a0, .string a1, c2, c3, c4])) = some y2 := hf 2 _ rfl
    rw [show Try.prog.cellsOf 4 = 1 from by kernel_rfl] at h
    exact h
  obtain ⟨a2, ec2, _⟩ := DataW.trod_bool Try.underlying4 gc2
  obtain rfl : c2 = .bool a2 := by simpa using ec2
  clear gc2 ec2
  have gc3 : DataW.trod enc Try.prog W 0 (fun _ => true) true fu 5 [c3] = some y3 := by
    have h : DataW.trod enc Try.prog W 0 (fun _ => true) true fu 5 (List.take (Try.prog.cellsOf 5) (List.drop 3 [.int .u64 a0, .string a1, .bool a2, c3, c4])) = some y3 := hf 3 _ rfl
    rw [show Try.prog.cellsOf 5 = 1 from by kernel_rfl] at h
    exact h
  obtain ⟨xc3, ec3, _, wc3⟩ := DataW.trod_int Try.underlying5 gc3
  obtain ⟨a3, rfl, b3⟩ := wf_lt (m := 255) wc3 rfl rfl
  obtain rfl : c3 = .int .u8 a3 := by simpa using ec3
  clear gc3 ec3 wc3
  have gc4 : DataW.trod enc Try.prog W 0 (fun _ => true) true fu 57 [c4] = some y4 := by
    have h : DataW.trod enc Try.prog W 0 (fun _ => true) true fu 57 (List.take (Try.prog.cellsOf 57) (List.drop 4 [.int .u64 a0, .string a1, .bool a2, .int .u8 a3, c4])) = some y4 := hf 4 _ rfl
    rw [show Try.prog.cellsOf 57 = 1 from by kernel_rfl] at h
    exact h
  obtain ⟨xc4, ec4, _, wc4⟩ := DataW.trod_int Try.underlying57 gc4
  obtain ⟨a4, rfl, b4⟩ := wf_lt (m := 18446744073709551615) wc4 rfl rfl
  obtain rfl : c4 = .int .u64 a4 := by simpa using ec4
  clear gc4 ec4 wc4
  exact ⟨⟨a0, a1, a2, a3, a4⟩, rfl⟩
set_option maxRecDepth 100000 in
set_option maxHeartbeats 2000000 in
theorem trod_step {H : Type} {enc : TypeId × Value → H} {W : World} {fuel : Nat} {cs : List Value} {x : DataW H × List MemPlace} (h : DataW.trod enc Try.prog W 0 (fun _ => true) true fuel 61 cs = some x) :
    ∃ s : Stp, cs = s.cells ∧ s.n < 4294967296 := by
  obtain ⟨xs, fu, rfl, rfl, hl, hlen, hf⟩ := DataW.trod_struct Try.underlying61 h
  rw [show Try.prog.cellsOf 61 = 7 from by kernel_rfl] at hl
  obtain ⟨c0, c1, c2, c3, c4, c5, c6, rfl⟩ := list7 cs hl
  obtain ⟨y0, y1, y2, rfl⟩ := list3 xs hlen
  have gc0 : DataW.trod enc Try.prog W 0 (fun _ => true) true fu 3 [c0] = some y0 := by
    have h : DataW.trod enc Try.prog W 0 (fun _ => true) true fu 3 (List.take (Try.prog.cellsOf 3) (List.drop 0 [c0, c1, c2, c3, c4, c5, c6])) = some y0 := hf 0 _ rfl
    rw [show Try.prog.cellsOf 3 = 1 from by kernel_rfl] at h
    exact h
  obtain ⟨d, ec0, _, wc0⟩ := DataW.trod_int Try.underlying3 gc0
  obtain rfl : c0 = .int .i64 d := by simpa using ec0
  clear gc0 ec0 wc0
  have gc1 : DataW.trod enc Try.prog W 0 (fun _ => true) true fu 56 [c1] = some y1 := by
    have h : DataW.trod enc Try.prog W 0 (fun _ => true) true fu 56 (List.take (Try.prog.cellsOf 56) (List.drop 1 [.int .i64 d, c1, c2, c3, c4, c5, c6])) = some y1 := hf 1 _ rfl
    rw [show Try.prog.cellsOf 56 = 1 from by kernel_rfl] at h
    exact h
  obtain ⟨xc1, ec1, _, wc1⟩ := DataW.trod_int Try.underlying56 gc1
  obtain ⟨n, rfl, b1⟩ := wf_lt (m := 4294967295) wc1 rfl rfl
  obtain rfl : c1 = .int .u32 n := by simpa using ec1
  clear gc1 ec1 wc1
  have g2 : DataW.trod enc Try.prog W 0 (fun _ => true) true fu 59 [c2, c3, c4, c5, c6] = some y2 := by
    have h : DataW.trod enc Try.prog W 0 (fun _ => true) true fu 59 (List.take (Try.prog.cellsOf 59) (List.drop 2 [.int .i64 d, .int .u32 n, c2, c3, c4, c5, c6])) = some y2 := hf 2 _ rfl
    rw [show Try.prog.cellsOf 59 = 5 from by kernel_rfl] at h
    exact h
  obtain ⟨q, hq⟩ := trod_fid g2
  unfold Fd.cells at hq
  injection hq with h2 hq
  injection hq with h3 hq
  injection hq with h4 hq
  injection hq with h5 hq
  injection hq with h6 _
  subst h2 h3 h4 h5 h6
  exact ⟨⟨d, n, q⟩, rfl, by show n < _; omega⟩
set_option maxRecDepth 100000 in
theorem arg_steps {H : Type} {enc : TypeId × Value → H} {W : World} {base : Nat} {v : Value} {d : DataW H} {ps : List MemPlace} (hval : Value.okWide Try.prog W .any base 48 v)
    (h : DataW.Trod enc Try.prog W 0 (fun _ => true) true 48 v d ps) : ∃ l : List Stp, Reads Stp.cells 7 W v l ∧ ∀ s ∈ l, s.n < 4294967296 := by
  obtain ⟨a, len, cap, row, rfl, hl, hr⟩ := arg_slice Try.underlying48 (by kernel_rfl : Try.prog.cellsOf 61 = 7) (by decide) hval h
  have hex : ∀ i, ∃ s : Stp, i < len → row i = s.cells ∧ s.n < 4294967296 := fun i => by
    by_cases hi : i < len
    · obtain ⟨_, _, n, y, hy⟩ := hr i hi
      obtain ⟨s, h1, h2⟩ := trod_step hy
      exact ⟨s, fun _ => ⟨h1, h2⟩⟩
    · exact ⟨⟨0, 0, Fd.zero⟩, fun x => absurd x hi⟩
  have hlen : ((List.range len).map fun i => (hex i).choose).length = len := by simp
  refine ⟨(List.range len).map fun i => (hex i).choose, ⟨a, cap, by rw [hlen], by rw [hlen]; exact hl, fun i hi => ?_⟩, fun s hs => ?_⟩
  · rw [hlen] at hi
    obtain ⟨h1, ⟨g, off, ha, hg, hc⟩, _⟩ := hr i hi
    refine ⟨g, off, ha, hg, fun j u hu => ?_⟩
    simp only [List.getElem_map, List.getElem_range] at hu
    rw [← ((hex i).choose_spec hi).1] at hu
    have hj : j < 7 := by have := (List.getElem?_eq_some_iff.1 hu).1; omega
    rw [Nat.add_assoc, hc j hj]
    exact hu
  · obtain ⟨i, hi, rfl⟩ := List.mem_map.1 hs
    exact ((hex i).choose_spec (List.mem_range.1 hi)).2
def heldV (p : Nat × Fd) : Value := .agg #[.int .u32 p.1, .int .u64 p.2.path, .string p.2.who, .bool p.2.opn, .int .u8 p.2.mode, .int .u64 p.2.next]
set_option maxHeartbeats 1000000 in
theorem eqH_self (p : Nat × Fd) (w : World) : (Op.equalIn 10000 69 (heldV p) (heldV p)).run Try.prog w = .ok true w := by
  have ht : Try.prog.underlying 69 = some (.struct (Try.prog.fieldsOf 69)) := by kernel_rfl
  have hp : Try.prog.stoodInHeld 69 = false := by kernel_rfl
  have ht2 : Try.prog.underlying 59 = some (.struct (Try.prog.fieldsOf 59)) := by kernel_rfl
  have hp2 : Try.prog.stoodInHeld 59 = false := by kernel_rfl
  unfold heldV
  rw [show (10000 : Nat) = 9999 + 1 from rfl, run_equalIn_agg w 9999 _ _ _ ht hp]
  simp [go_sem, Op.eqFields]
theorem neH (p : Nat × Fd) (w : World) : (binOp .neq 69 (.agg #[.int .u32 p.1, .int .u64 p.2.path, .string p.2.who, .bool p.2.opn, .int .u8 p.2.mode, .int .u64 p.2.next]) (.agg #[.int .u32 p.1, .int .u64 p.2.path, .string p.2.who, .bool p.2.opn, .int .u8 p.2.mode, .int .u64 p.2.next])).run Try.prog w = .ok (.bool false) w := by
  rw [run_neq_struct, show (Op.equalIn 10000 69 (.agg #[.int .u32 p.1, .int .u64 p.2.path, .string p.2.who, .bool p.2.opn, .int .u8 p.2.mode, .int .u64 p.2.next]) (.agg #[.int .u32 p.1, .int .u64 p.2.path, .string p.2.who, .bool p.2.opn, .int .u8 p.2.mode, .int .u64 p.2.next])).run Try.prog w = _ from eqH_self p w]; rfl
end Go.Proofs.Ytcadkaedahoefaa
