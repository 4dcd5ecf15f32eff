/- An argument that is a stat, or a row of stats. -/
import Derived.Test.YtjhhknmdnkkknaaLawKit
import Derived.Test.YtjhhknmdnkkknaaSts
import Derived.SizedLaws
namespace Go.Proofs.Ytjhhknmdnkkknaa
open Go.ChangeShapes Go.WideShapes Go.ChangeAt Go.RowKit

theorem fld1 {cs : List Value} {k : Nat} {c : Value} (h : cs[k]? = some c) : (cs.drop k).take 1 = [c] := by
  obtain ⟨hk, rfl⟩ := List.getElem?_eq_some_iff.1 h
  rw [List.drop_eq_getElem_cons hk]; rfl
theorem wf_lt {k : IntKind} {x : Int} {m : Int} (h : (Lit.int k x).wf = true) (h0 : k.min = 0) (h1 : k.max = m) : ∃ n : Nat, x = n ∧ (n : Int) ≤ m := by
  simp only [Lit.wf, Bool.and_eq_true, decide_eq_true_eq, h0, h1] at h
  exact ⟨x.toNat, by omega, by omega⟩
theorem list13 {α : Type} (l : List α) (h : l.length = 13) : ∃ c0 c1 c2 c3 c4 c5 c6 c7 c8 c9 c10 c11 c12, l = [c0, c1, c2, c3, c4, c5, c6, c7, c8, c9, c10, c11, c12] := by
  match l, h with
  | [c0, c1, c2, c3, c4, c5, c6, c7, c8, c9, c10, c11, c12], _ => exact ⟨_, _, _, _, _, _, _, _, _, _, _, _, _, rfl⟩
theorem list11 {α : Type} (l : List α) (h : l.length = 11) : ∃ c0 c1 c2 c3 c4 c5 c6 c7 c8 c9 c10, l = [c0, c1, c2, c3, c4, c5, c6, c7, c8, c9, c10] := by
  match l, h with
  | [c0, c1, c2, c3, c4, c5, c6, c7, c8, c9, c10], _ => exact ⟨_, _, _, _, _, _, _, _, _, _, _, rfl⟩
theorem list3 {α : Type} (l : List α) (h : l.length = 3) : ∃ c0 c1 c2, l = [c0, c1, c2] := by
  match l, h with
  | [c0, c1, c2], _ => exact ⟨_, _, _, rfl⟩

set_option maxRecDepth 100000 in
set_option maxHeartbeats 2000000 in
theorem trod_stat {H : Type} {enc : TypeId × Value → H} {W : World} {fuel : Nat} {cs : List Value} {x : DataW H × List MemPlace} (h : DataW.trod enc Try.prog W 0 (fun _ => true) true fuel 28 cs = some x) :
    ∃ s : St, cs = s.cells ∧ s.Ok ∧ ((∀ k ∈ x.1.weights Try.prog 28, k ≤ reachBytes) → s.n.size ≤ reachBytes ∧ s.u.size ≤ reachBytes ∧ s.g.size ≤ reachBytes ∧ s.m.size ≤ reachBytes) := by
  obtain ⟨xs, fu, rfl, rfl, hl, hlen, hf⟩ := DataW.trod_struct Try.underlying28 h
  rw [show Try.prog.cellsOf 28 = 13 from by kernel_rfl] at hl
  obtain ⟨c0, c1, c2, c3, c4, c5, c6, c7, c8, c9, c10, c11, c12, rfl⟩ := list13 cs hl
  obtain ⟨y0, y1, y2, y3, y4, y5, y6, y7, y8, y9, y10, rfl⟩ := list11 xs hlen
  have gc0 : DataW.trod enc Try.prog W 0 (fun _ => true) true fu 22 [c0] = some y0 := by
    have h : DataW.trod enc Try.prog W 0 (fun _ => true) true fu 22 (List.take (Try.prog.cellsOf 22) (List.drop 0 [c0, c1, c2, c3, c4, c5, c6, c7, c8, c9, c10, c11, c12])) = some y0 := hf 0 _ rfl
    rw [show Try.prog.cellsOf 22 = 1 from by kernel_rfl] at h
    exact h
  obtain ⟨xc0, ec0, _, wc0⟩ := DataW.trod_int Try.underlying22 gc0
  obtain ⟨ty, rfl, bty⟩ := wf_lt (m := 65535) wc0 rfl rfl
  obtain rfl : c0 = .int .u16 ty := by simpa using ec0
  clear gc0 ec0 wc0
  have gc1 : DataW.trod enc Try.prog W 0 (fun _ => true) true fu 23 [c1] = some y1 := by
    have h : DataW.trod enc Try.prog W 0 (fun _ => true) true fu 23 (List.take (Try.prog.cellsOf 23) (List.drop 1 [.int .u16 ty, c1, c2, c3, c4, c5, c6, c7, c8, c9, c10, c11, c12])) = some y1 := hf 1 _ rfl
    rw [show Try.prog.cellsOf 23 = 1 from by kernel_rfl] at h
    exact h
  obtain ⟨xc1, ec1, _, wc1⟩ := DataW.trod_int Try.underlying23 gc1
  obtain ⟨dev, rfl, bdev⟩ := wf_lt (m := 4294967295) wc1 rfl rfl
  obtain rfl : c1 = .int .u32 dev := by simpa using ec1
  clear gc1 ec1 wc1
  have gc5 : DataW.trod enc Try.prog W 0 (fun _ => true) true fu 23 [c5] = some y3 := by
    have h : DataW.trod enc Try.prog W 0 (fun _ => true) true fu 23 (List.take (Try.prog.cellsOf 23) (List.drop 5 [.int .u16 ty, .int .u32 dev, c2, c3, c4, c5, c6, c7, c8, c9, c10, c11, c12])) = some y3 := hf 3 _ rfl
    rw [show Try.prog.cellsOf 23 = 1 from by kernel_rfl] at h
    exact h
  obtain ⟨xc5, ec5, _, wc5⟩ := DataW.trod_int Try.underlying23 gc5
  obtain ⟨mo, rfl, bmo⟩ := wf_lt (m := 4294967295) wc5 rfl rfl
  obtain rfl : c5 = .int .u32 mo := by simpa using ec5
  clear gc5 ec5 wc5
  have gc6 : DataW.trod enc Try.prog W 0 (fun _ => true) true fu 23 [c6] = some y4 := by
    have h : DataW.trod enc Try.prog W 0 (fun _ => true) true fu 23 (List.take (Try.prog.cellsOf 23) (List.drop 6 [.int .u16 ty, .int .u32 dev, c2, c3, c4, .int .u32 mo, c6, c7, c8, c9, c10, c11, c12])) = some y4 := hf 4 _ rfl
    rw [show Try.prog.cellsOf 23 = 1 from by kernel_rfl] at h
    exact h
  obtain ⟨xc6, ec6, _, wc6⟩ := DataW.trod_int Try.underlying23 gc6
  obtain ⟨at_, rfl, bat_⟩ := wf_lt (m := 4294967295) wc6 rfl rfl
  obtain rfl : c6 = .int .u32 at_ := by simpa using ec6
  clear gc6 ec6 wc6
  have gc7 : DataW.trod enc Try.prog W 0 (fun _ => true) true fu 23 [c7] = some y5 := by
    have h : DataW.trod enc Try.prog W 0 (fun _ => true) true fu 23 (List.take (Try.prog.cellsOf 23) (List.drop 7 [.int .u16 ty, .int .u32 dev, c2, c3, c4, .int .u32 mo, .int .u32 at_, c7, c8, c9, c10, c11, c12])) = some y5 := hf 5 _ rfl
    rw [show Try.prog.cellsOf 23 = 1 from by kernel_rfl] at h
    exact h
  obtain ⟨xc7, ec7, _, wc7⟩ := DataW.trod_int Try.underlying23 gc7
  obtain ⟨mt, rfl, bmt⟩ := wf_lt (m := 4294967295) wc7 rfl rfl
  obtain rfl : c7 = .int .u32 mt := by simpa using ec7
  clear gc7 ec7 wc7
  have gc8 : DataW.trod enc Try.prog W 0 (fun _ => true) true fu 24 [c8] = some y6 := by
    have h : DataW.trod enc Try.prog W 0 (fun _ => true) true fu 24 (List.take (Try.prog.cellsOf 24) (List.drop 8 [.int .u16 ty, .int .u32 dev, c2, c3, c4, .int .u32 mo, .int .u32 at_, .int .u32 mt, c8, c9, c10, c11, c12])) = some y6 := hf 6 _ rfl
    rw [show Try.prog.cellsOf 24 = 1 from by kernel_rfl] at h
    exact h
  obtain ⟨xc8, ec8, _, wc8⟩ := DataW.trod_int Try.underlying24 gc8
  obtain ⟨len, rfl, blen⟩ := wf_lt (m := 18446744073709551615) wc8 rfl rfl
  obtain rfl : c8 = .int .u64 len := by simpa using ec8
  clear gc8 ec8 wc8
  have gc9 : DataW.trod enc Try.prog W 0 (fun _ => true) true fu 9 [c9] = some y7 := by
    have h : DataW.trod enc Try.prog W 0 (fun _ => true) true fu 9 (List.take (Try.prog.cellsOf 9) (List.drop 9 [.int .u16 ty, .int .u32 dev, c2, c3, c4, .int .u32 mo, .int .u32 at_, .int .u32 mt, .int .u64 len, c9, c10, c11, c12])) = some y7 := hf 7 _ rfl
    rw [show Try.prog.cellsOf 9 = 1 from by kernel_rfl] at h
    exact h
  obtain ⟨sn, ec9, dc9, wc9⟩ := DataW.trod_string Try.underlying9 gc9
  obtain rfl : c9 = .string sn := by simpa using ec9
  subst dc9
  clear gc9 ec9
  have gc10 : DataW.trod enc Try.prog W 0 (fun _ => true) true fu 9 [c10] = some y8 := by
    have h : DataW.trod enc Try.prog W 0 (fun _ => true) true fu 9 (List.take (Try.prog.cellsOf 9) (List.drop 10 [.int .u16 ty, .int .u32 dev, c2, c3, c4, .int .u32 mo, .int .u32 at_, .int .u32 mt, .int .u64 len, .string sn, c10, c11, c12])) = some y8 := hf 8 _ rfl
    rw [show Try.prog.cellsOf 9 = 1 from by kernel_rfl] at h
    exact h
  obtain ⟨su, ec10, dc10, wc10⟩ := DataW.trod_string Try.underlying9 gc10
  obtain rfl : c10 = .string su := by simpa using ec10
  subst dc10
  clear gc10 ec10
  have gc11 : DataW.trod enc Try.prog W 0 (fun _ => true) true fu 9 [c11] = some y9 := by
    have h : DataW.trod enc Try.prog W 0 (fun _ => true) true fu 9 (List.take (Try.prog.cellsOf 9) (List.drop 11 [.int .u16 ty, .int .u32 dev, c2, c3, c4, .int .u32 mo, .int .u32 at_, .int .u32 mt, .int .u64 len, .string sn, .string su, c11, c12])) = some y9 := hf 9 _ rfl
    rw [show Try.prog.cellsOf 9 = 1 from by kernel_rfl] at h
    exact h
  obtain ⟨sg, ec11, dc11, wc11⟩ := DataW.trod_string Try.underlying9 gc11
  obtain rfl : c11 = .string sg := by simpa using ec11
  subst dc11
  clear gc11 ec11
  have gc12 : DataW.trod enc Try.prog W 0 (fun _ => true) true fu 9 [c12] = some y10 := by
    have h : DataW.trod enc Try.prog W 0 (fun _ => true) true fu 9 (List.take (Try.prog.cellsOf 9) (List.drop 12 [.int .u16 ty, .int .u32 dev, c2, c3, c4, .int .u32 mo, .int .u32 at_, .int .u32 mt, .int .u64 len, .string sn, .string su, .string sg, c12])) = some y10 := hf 10 _ rfl
    rw [show Try.prog.cellsOf 9 = 1 from by kernel_rfl] at h
    exact h
  obtain ⟨sm, ec12, dc12, wc12⟩ := DataW.trod_string Try.underlying9 gc12
  obtain rfl : c12 = .string sm := by simpa using ec12
  subst dc12
  clear gc12 ec12
  have hq : DataW.trod enc Try.prog W 0 (fun _ => true) true fu 26 [c2, c3, c4] = some y2 := by
    have h : DataW.trod enc Try.prog W 0 (fun _ => true) true fu 26 (List.take (Try.prog.cellsOf 26) (List.drop 2 [.int .u16 ty, .int .u32 dev, c2, c3, c4, .int .u32 mo, .int .u32 at_, .int .u32 mt, .int .u64 len, .string sn, .string su, .string sg, .string sm])) = some y2 := hf 2 _ rfl
    rw [show Try.prog.cellsOf 26 = 3 from by kernel_rfl] at h
    exact h
  clear hf
  obtain ⟨qs, fu, rfl, rfl, _, hql, hqf⟩ := DataW.trod_struct Try.underlying26 hq
  obtain ⟨z0, z1, z2, rfl⟩ := list3 qs hql
  have gc2 : DataW.trod enc Try.prog W 0 (fun _ => true) true fu 5 [c2] = some z0 := by
    have h : DataW.trod enc Try.prog W 0 (fun _ => true) true fu 5 (List.take (Try.prog.cellsOf 5) (List.drop 0 [c2, c3, c4])) = some z0 := hqf 0 _ rfl
    rw [show Try.prog.cellsOf 5 = 1 from by kernel_rfl] at h
    exact h
  obtain ⟨xc2, ec2, _, wc2⟩ := DataW.trod_int Try.underlying5 gc2
  obtain ⟨qt, rfl, bqt⟩ := wf_lt (m := 255) wc2 rfl rfl
  obtain rfl : c2 = .int .u8 qt := by simpa using ec2
  clear gc2 ec2 wc2
  have gc3 : DataW.trod enc Try.prog W 0 (fun _ => true) true fu 23 [c3] = some z1 := by
    have h : DataW.trod enc Try.prog W 0 (fun _ => true) true fu 23 (List.take (Try.prog.cellsOf 23) (List.drop 1 [.int .u8 qt, c3, c4])) = some z1 := hqf 1 _ rfl
    rw [show Try.prog.cellsOf 23 = 1 from by kernel_rfl] at h
    exact h
  obtain ⟨xc3, ec3, _, wc3⟩ := DataW.trod_int Try.underlying23 gc3
  obtain ⟨qv, rfl, bqv⟩ := wf_lt (m := 4294967295) wc3 rfl rfl
  obtain rfl : c3 = .int .u32 qv := by simpa using ec3
  clear gc3 ec3 wc3
  have gc4 : DataW.trod enc Try.prog W 0 (fun _ => true) true fu 24 [c4] = some z2 := by
    have h : DataW.trod enc Try.prog W 0 (fun _ => true) true fu 24 (List.take (Try.prog.cellsOf 24) (List.drop 2 [.int .u8 qt, .int .u32 qv, c4])) = some z2 := hqf 2 _ rfl
    rw [show Try.prog.cellsOf 24 = 1 from by kernel_rfl] at h
    exact h
  obtain ⟨xc4, ec4, _, wc4⟩ := DataW.trod_int Try.underlying24 gc4
  obtain ⟨qp, rfl, bqp⟩ := wf_lt (m := 18446744073709551615) wc4 rfl rfl
  obtain rfl : c4 = .int .u64 qp := by simpa using ec4
  clear gc4 ec4 wc4
  refine ⟨⟨ty, dev, qt, qv, qp, mo, at_, mt, len, sn, su, sg, sm⟩, rfl, ⟨by show ty < _; omega, by show dev < _; omega, by show qt < _; omega, by show qv < _; omega, by show qp < _; omega, by show mo < _; omega, by show at_ < _; omega, by show mt < _; omega, by show len < _; omega⟩, fun hw => ?_⟩
  exact ⟨by have := hw sn.data.toList.length (by simp [DataW.weights, DataW.weightsEach, Try.underlying28]); rwa [Array.length_toList] at this, by have := hw su.data.toList.length (by simp [DataW.weights, DataW.weightsEach, Try.underlying28]); rwa [Array.length_toList] at this, by have := hw sg.data.toList.length (by simp [DataW.weights, DataW.weightsEach, Try.underlying28]); rwa [Array.length_toList] at this, by have := hw sm.data.toList.length (by simp [DataW.weights, DataW.weightsEach, Try.underlying28]); rwa [Array.length_toList] at this⟩
set_option maxRecDepth 100000 in
/-- an argument that is a stat -/
theorem arg_stat {H : Type} {enc : TypeId × Value → H} {W : World} {base : Nat} {v : Value} {d : DataW H} {ps : List MemPlace} (hval : Value.okWide Try.prog W .any base 28 v)
    (h : DataW.Trod enc Try.prog W 0 (fun _ => true) true 28 v d ps) : ∃ s : St, v = s.v ∧ s.Ok ∧ ((∀ k ∈ d.weights Try.prog 28, k ≤ reachBytes) → s.n.size ≤ reachBytes ∧ s.u.size ≤ reachBytes ∧ s.g.size ≤ reachBytes ∧ s.m.size ≤ reachBytes) := by
  obtain ⟨cs, rfl, hsz⟩ := okWide_struct Try.underlying28 hval
  obtain ⟨fuel, hf⟩ := h
  obtain ⟨s, hs, hk, hw⟩ := trod_stat hf
  refine ⟨s, ?_, hk, hw⟩
  simp only [Value.cells] at hs
  show Value.agg cs = .agg s.cells.toArray
  rw [← hs]
theorem weightsAll_mem {H : Type} {P : Program} {e : TypeId} {d : DataW H} {k : Nat} : ∀ {ds : List (DataW H)}, d ∈ ds → k ∈ d.weights P e → k ∈ DataW.weightsAll P e ds
  | [], h, _ => by cases h
  | d0 :: ds, h, hk => by
    simp only [DataW.weightsAll, List.mem_append]
    rcases List.mem_cons.1 h with rfl | h
    · exact Or.inl hk
    · exact Or.inr (weightsAll_mem h hk)
set_option maxRecDepth 100000 in
/-- an argument that is a row of stats -/
theorem arg_stats {H : Type} {enc : TypeId × Value → H} {W : World} {base : Nat} {v : Value} {d : DataW H} {ps : List MemPlace} (hval : Value.okWide Try.prog W .any base 30 v)
    (h : DataW.Trod enc Try.prog W 0 (fun _ => true) true 30 v d ps) : ∃ l : List St, StsAt W (fun _ => True) v l ∧ (∀ s ∈ l, s.Ok) ∧
      ((∀ k ∈ d.weights Try.prog 30, k ≤ reachBytes) → l.length ≤ reachBytes ∧ ∀ s ∈ l, s.n.size ≤ reachBytes ∧ s.u.size ≤ reachBytes ∧ s.g.size ≤ reachBytes ∧ s.m.size ≤ reachBytes) := by
  obtain ⟨a0, len, cap, rfl⟩ := okWide_slice Try.underlying30 hval
  obtain ⟨fuel, hf⟩ := h
  rcases Go.Deep.open_slice Try.underlying30 hf with ⟨hcs, hx⟩ | ⟨a, len', cap', m, n, D, Pl, hcs, _, hl, hm, hmm, hx, hi⟩
  · simp only [Value.cells, List.cons.injEq, and_true] at hcs
    injection hcs with e1 e2 e3
    exact ⟨[], .inl ⟨rfl, a0, cap, by rw [e2]⟩, (fun s hs => by cases hs), fun _ => ⟨Nat.zero_le _, fun s hs => by cases hs⟩⟩
  · simp only [Value.cells, List.cons.injEq, and_true] at hcs
    injection hcs with e1 e2 e3
    subst e1 e2 e3
    simp only [if_true] at hmm
    subst hmm
    simp only [Prod.mk.injEq] at hx
    obtain ⟨rfl, _⟩ := hx
    rw [show Try.prog.cellsOf 28 = 13 from by kernel_rfl] at hi
    have hex : ∀ i, ∃ s : St, i < len → (∀ j, j < 13 → W.cell? ((a.add (i * 13)).add j) = s.cells[j]?) ∧ s.Ok ∧ ((∀ k ∈ (D i).weights Try.prog 28, k ≤ reachBytes) → s.n.size ≤ reachBytes ∧ s.u.size ≤ reachBytes ∧ s.g.size ≤ reachBytes ∧ s.m.size ≤ reachBytes) := by
      intro i
      by_cases h : i < len
      · obtain ⟨cs', h1, h2⟩ := hi i (by omega)
        obtain ⟨s, rfl, hk, hw⟩ := trod_stat h2
        exact ⟨s, fun _ => ⟨(World.cells?_some h1).2.2, hk, hw⟩⟩
      · exact ⟨⟨0, 0, 0, 0, 0, 0, 0, 0, 0, .empty, .empty, .empty, .empty⟩, fun x => absurd x h⟩
    obtain ⟨S, hS'⟩ : ∃ S : Nat → St, ∀ i, i < len → (∀ j, j < 13 → W.cell? ((a.add (i * 13)).add j) = (S i).cells[j]?) ∧ (S i).Ok ∧ ((∀ k ∈ (D i).weights Try.prog 28, k ≤ reachBytes) → (S i).n.size ≤ reachBytes ∧ (S i).u.size ≤ reachBytes ∧ (S i).g.size ≤ reachBytes ∧ (S i).m.size ≤ reachBytes) := ⟨fun i => (hex i).choose, fun i hi => (hex i).choose_spec hi⟩
    have hlen : ((List.range len).map S).length = len := by simp
    refine ⟨(List.range len).map S, ?_, ?_, fun hw => ⟨?_, ?_⟩⟩
    · by_cases h0 : len = 0
      · exact .inl ⟨by rw [h0]; rfl, _, _, by rw [h0]⟩
      · have hc0 := (hS' 0 (by omega)).1 0 (by omega)
        have ha : a = ⟨a.block, a.off, none⟩ := by
          have h3 := addr_form (v := .int .u16 (S 0).ty) hc0
          rw [Nat.zero_mul] at h3
          obtain ⟨b, o, sp⟩ := a
          cases sp with
          | none => rfl
          | some _ => simp [Addr.add] at h3
        have hadd : ∀ x y, (a.add x).add y = ⟨a.block, a.off + x + y, none⟩ := fun x y => by rw [ha, add_plain, add_plain]
        rw [hadd] at hc0
        refine .inr ⟨a.block, a.off, m, by rw [hlen, ← ha], trivial, World.block_lt_of_cell? W ⟨a.block, a.off + 0 * 13 + 0, none⟩ (u := .int .u16 (S 0).ty) hc0, by rw [hlen]; exact hl, fun j s hj i u hu => ?_⟩
        rw [List.getElem?_map] at hj
        have hjl : j < len := by
          rcases Nat.lt_or_ge j len with g | g
          · exact g
          · rw [List.getElem?_eq_none (by rw [List.length_range]; exact g)] at hj; cases hj
        rw [List.getElem?_range hjl] at hj
        injection hj with hj
        subst hj
        have hi13 : i < 13 := (List.getElem?_eq_some_iff.1 hu).1
        have := (hS' j hjl).1 i hi13
        rw [hadd] at this
        exact this.trans hu
    · intro s hs
      obtain ⟨i, hi2, rfl⟩ := List.mem_map.1 hs
      exact (hS' i (List.mem_range.1 hi2)).2.1
    · rw [hlen]
      have := hw ((len + (m - len)) * Try.prog.bytesOf 28) (by simp [DataW.weights, Try.underlying30])
      rw [show Try.prog.bytesOf 28 = 112 from by kernel_rfl] at this
      omega
    · intro s hs
      obtain ⟨i, hi2, rfl⟩ := List.mem_map.1 hs
      refine (hS' i (List.mem_range.1 hi2)).2.2 fun k hk => hw k ?_
      simp only [DataW.weights, Try.underlying30, List.mem_cons, List.mem_append]
      exact Or.inr (Or.inl (weightsAll_mem (List.mem_map.2 ⟨i, hi2, rfl⟩) hk))
end Go.Proofs.Ytjhhknmdnkkknaa
