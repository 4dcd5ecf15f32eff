/- An argument that is a change: three texts and a number. -/
import Derived.Test.YtfkmfllhlhefdaaDoorLawKit
import Derived.SizedLaws
namespace Go.Proofs.YtfkmfllhlhefdaaDoor
open Go.ChangeShapes Go.WideShapes Go.ChangeAt Go.RowKit

theorem wf_lt {k : IntKind} {x : Int} {m : Int} (h : (Lit.int k x).wf = true) (h0 : k.min = 0) (h1 : k.max = m) : ∃ n : Nat, x = n ∧ (n : Int) ≤ m := by
  simp only [Lit.wf, Bool.and_eq_true, decide_eq_true_eq, h0, h1] at h
  exact ⟨x.toNat, by omega, by omega⟩
theorem list4 {α : Type} (l : List α) (h : l.length = 4) : ∃ c0 c1 c2 c3, l = [c0, c1, c2, c3] := by
  match l, h with
  | [c0, c1, c2, c3], _ => exact ⟨_, _, _, _, rfl⟩
set_option maxRecDepth 100000 in
set_option maxHeartbeats 2000000 in
theorem trod_change {H : Type} {enc : TypeId × Value → H} {W : World} {fuel : Nat} {cs : List Value} {x : DataW H × List MemPlace} (h : DataW.trod enc Tryd.prog W 0 (fun _ => true) true fuel 24 cs = some x) :
    ∃ (s n o : ByteArray) (p : Nat), cs = [.string s, .string n, .string o, .int .u64 p] ∧ s.size ≤ maxLen ∧ n.size ≤ maxLen ∧ o.size ≤ maxLen ∧ p < 18446744073709551616 := by
  obtain ⟨xs, fu, rfl, rfl, hl, hlen, hf⟩ := DataW.trod_struct Tryd.underlying24 h
  rw [show Tryd.prog.cellsOf 24 = 4 from by kernel_rfl] at hl
  obtain ⟨c0, c1, c2, c3, rfl⟩ := list4 cs hl
  obtain ⟨y0, y1, y2, y3, rfl⟩ := list4 xs hlen
  have gc0 : DataW.trod enc Tryd.prog W 0 (fun _ => true) true fu 9 [c0] = some y0 := by
    have h : DataW.trod enc Tryd.prog W 0 (fun _ => true) true fu 9 (List.take (Tryd.prog.cellsOf 9) (List.drop 0 [c0, c1, c2, c3])) = some y0 := hf 0 _ rfl
    rw [show Tryd.prog.cellsOf 9 = 1 from by kernel_rfl] at h
    exact h
  obtain ⟨s, ec0, dc0, wc0⟩ := DataW.trod_string Tryd.underlying9 gc0
  obtain rfl : c0 = .string s := by simpa using ec0
  subst dc0
  clear gc0 ec0
  have gc1 : DataW.trod enc Tryd.prog W 0 (fun _ => true) true fu 9 [c1] = some y1 := by
    have h : DataW.trod enc Tryd.prog W 0 (fun _ => true) true fu 9 (List.take (Tryd.prog.cellsOf 9) (List.drop 1 [.string s, c1, c2, c3])) = some y1 := hf 1 _ rfl
    rw [show Tryd.prog.cellsOf 9 = 1 from by kernel_rfl] at h
    exact h
  obtain ⟨n, ec1, dc1, wc1⟩ := DataW.trod_string Tryd.underlying9 gc1
  obtain rfl : c1 = .string n := by simpa using ec1
  subst dc1
  clear gc1 ec1
  have gc2 : DataW.trod enc Tryd.prog W 0 (fun _ => true) true fu 9 [c2] = some y2 := by
    have h : DataW.trod enc Tryd.prog W 0 (fun _ => true) true fu 9 (List.take (Tryd.prog.cellsOf 9) (List.drop 2 [.string s, .string n, c2, c3])) = some y2 := hf 2 _ rfl
    rw [show Tryd.prog.cellsOf 9 = 1 from by kernel_rfl] at h
    exact h
  obtain ⟨o, ec2, dc2, wc2⟩ := DataW.trod_string Tryd.underlying9 gc2
  obtain rfl : c2 = .string o := by simpa using ec2
  subst dc2
  clear gc2 ec2
  have gc3 : DataW.trod enc Tryd.prog W 0 (fun _ => true) true fu 22 [c3] = some y3 := by
    have h : DataW.trod enc Tryd.prog W 0 (fun _ => true) true fu 22 (List.take (Tryd.prog.cellsOf 22) (List.drop 3 [.string s, .string n, .string o, c3])) = some y3 := hf 3 _ rfl
    rw [show Tryd.prog.cellsOf 22 = 1 from by kernel_rfl] at h
    exact h
  obtain ⟨xc3, ec3, _, wc3⟩ := DataW.trod_int Tryd.underlying22 gc3
  obtain ⟨p, rfl, bp⟩ := wf_lt (m := 18446744073709551615) wc3 rfl rfl
  obtain rfl : c3 = .int .u64 p := by simpa using ec3
  clear gc3 ec3 wc3
  exact ⟨s, n, o, p, rfl, wc0, wc1, wc2, by omega⟩
set_option maxRecDepth 100000 in
theorem arg_change {H : Type} {enc : TypeId × Value → H} {W : World} {base : Nat} {v : Value} {d : DataW H} {ps : List MemPlace} (hval : Value.okWide Tryd.prog W .any base 24 v)
    (h : DataW.Trod enc Tryd.prog W 0 (fun _ => true) true 24 v d ps) : ∃ (s n o : ByteArray) (p : Nat), v = .agg #[.string s, .string n, .string o, .int .u64 p] ∧ s.size ≤ maxLen ∧ n.size ≤ maxLen ∧ o.size ≤ maxLen ∧ p < 18446744073709551616 := by
  obtain ⟨cs, rfl, hsz⟩ := okWide_struct Tryd.underlying24 hval
  obtain ⟨fuel, hf⟩ := h
  obtain ⟨s, n, o, p, hc, hk⟩ := trod_change hf
  refine ⟨s, n, o, p, ?_, hk⟩
  simp only [Value.cells] at hc
  show Value.agg cs = .agg [Value.string s, .string n, .string o, .int .u64 p].toArray
  rw [← hc]
end Go.Proofs.YtfkmfllhlhefdaaDoor
