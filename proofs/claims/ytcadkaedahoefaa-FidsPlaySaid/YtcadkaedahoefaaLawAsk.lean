/- Arguments of chapter 25: scripts of asks; of steps; bytes. -/
import Derived.Test.YtcadkaedahoefaaLawKit
import Derived.Test.YtcadkaedahoefaaTags
import Derived.SizedLaws
namespace Go.Proofs.Ytcadkaedahoefaa
open Go.ChangeShapes Go.WideShapes Go.ChangeAt Go.RowKit

theorem wf_lt {k : IntKind} {x : Int} {m : Int} (h : (Lit.int k x).wf = true) (h0 : k.min = 0) (h1 : k.max = m) : ∃ n : Nat, x = n ∧ (n : Int) ≤ m := by
  simp only [Lit.wf, Bool.and_eq_true, decide_eq_true_eq, h0, h1] at h
  exact ⟨x.toNat, by omega, by omega⟩
theorem list3 {α : Type} (l : List α) (h : l.length = 3) : ∃ c0 c1 c2, l = [c0, c1, c2] := by
  match l, h with
  | [c0, c1, c2], _ => exact ⟨_, _, _, rfl⟩
structure Ask where
  dof : Int
  tag : Nat
  old : Nat
def Ask.cells (s : Ask) : List Value := [.int .i64 s.dof, .int .u16 s.tag, .int .u16 s.old]
set_option maxRecDepth 100000 in
set_option maxHeartbeats 2000000 in
theorem trod_ask {H : Type} {enc : TypeId × Value → H} {W : World} {fuel : Nat} {cs : List Value} {x : DataW H × List MemPlace} (h : DataW.trod enc Try.prog W 0 (fun _ => true) true fuel 44 cs = some x) :
    ∃ s : Ask, cs = s.cells ∧ s.tag < 65536 ∧ s.old < 65536 := by
  obtain ⟨xs, fu, rfl, rfl, hl, hlen, hf⟩ := DataW.trod_struct Try.underlying44 h
  rw [show Try.prog.cellsOf 44 = 3 from by kernel_rfl] at hl
  obtain ⟨c0, c1, c2, rfl⟩ := list3 cs hl
  obtain ⟨y0, y1, y2, rfl⟩ := list3 xs hlen
  have gc0 : DataW.trod enc Try.prog W 0 (fun _ => true) true fu 3 [c0] = some y0 := by
    have h : DataW.trod enc Try.prog W 0 (fun _ => true) true fu 3 (List.take (Try.prog.cellsOf 3) (List.drop 0 [c0, c1, c2])) = some y0 := hf 0 _ rfl
    rw [show Try.prog.cellsOf 3 = 1 from by kernel_rfl] at h
    exact h
  obtain ⟨d, ec0, _, wc0⟩ := DataW.trod_int Try.underlying3 gc0
  obtain rfl : c0 = .int .i64 d := by simpa using ec0
  clear gc0 ec0 wc0
  have gc1 : DataW.trod enc Try.prog W 0 (fun _ => true) true fu 29 [c1] = some y1 := by
    have h : DataW.trod enc Try.prog W 0 (fun _ => true) true fu 29 (List.take (Try.prog.cellsOf 29) (List.drop 1 [.int .i64 d, c1, c2])) = some y1 := hf 1 _ rfl
    rw [show Try.prog.cellsOf 29 = 1 from by kernel_rfl] at h
    exact h
  obtain ⟨xc1, ec1, _, wc1⟩ := DataW.trod_int Try.underlying29 gc1
  obtain ⟨t, rfl, b1⟩ := wf_lt (m := 65535) wc1 rfl rfl
  obtain rfl : c1 = .int .u16 t := by simpa using ec1
  clear gc1 ec1 wc1
  have gc2 : DataW.trod enc Try.prog W 0 (fun _ => true) true fu 29 [c2] = some y2 := by
    have h : DataW.trod enc Try.prog W 0 (fun _ => true) true fu 29 (List.take (Try.prog.cellsOf 29) (List.drop 2 [.int .i64 d, .int .u16 t, c2])) = some y2 := hf 2 _ rfl
    rw [show Try.prog.cellsOf 29 = 1 from by kernel_rfl] at h
    exact h
  obtain ⟨xc2, ec2, _, wc2⟩ := DataW.trod_int Try.underlying29 gc2
  obtain ⟨o, rfl, b2⟩ := wf_lt (m := 65535) wc2 rfl rfl
  obtain rfl : c2 = .int .u16 o := by simpa using ec2
  clear gc2 ec2 wc2
  exact ⟨⟨d, t, o⟩, rfl, by show t < _; omega, by show o < _; omega⟩
/-- a slice reads as these, cell by cell -/
def Reads {α : Type} (cs : α → List Value) (sz : Nat) (W : World) (v : Value) (l : List α) : Prop :=
  ∃ a cap, v = .slice a l.length cap ∧ l.length ≤ maxLen ∧ ∀ i (h : i < l.length), ∃ g off, a = some ⟨g, off, none⟩ ∧ g < W.heap.size ∧ ∀ j u, (cs l[i])[j]? = some u → W.cell? ⟨g, off + i * sz + j, none⟩ = some u
set_option maxRecDepth 100000 in
theorem arg_asks {H : Type} {enc : TypeId × Value → H} {W : World} {base : Nat} {v : Value} {d : DataW H} {ps : List MemPlace} (hval : Value.okWide Try.prog W .any base 38 v)
    (h : DataW.Trod enc Try.prog W 0 (fun _ => true) true 38 v d ps) : ∃ l : List Ask, Reads Ask.cells 3 W v l ∧ ∀ s ∈ l, s.tag < 65536 ∧ s.old < 65536 := by
  obtain ⟨a, len, cap, row, rfl, hl, hr⟩ := arg_slice Try.underlying38 (by kernel_rfl : Try.prog.cellsOf 44 = 3) (by decide) hval h
  have hex : ∀ i, ∃ s : Ask, i < len → row i = s.cells ∧ s.tag < 65536 ∧ s.old < 65536 := fun i => by
    by_cases hi : i < len
    · obtain ⟨_, _, n, y, hy⟩ := hr i hi
      obtain ⟨s, h1, h2⟩ := trod_ask hy
      exact ⟨s, fun _ => ⟨h1, h2⟩⟩
    · exact ⟨⟨0, 0, 0⟩, fun x => absurd x hi⟩
  have hlen : ((List.range len).map fun i => (hex i).choose).length = len := by simp
  refine ⟨(List.range len).map fun i => (hex i).choose, ⟨a, cap, by rw [hlen], by rw [hlen]; exact hl, fun i hi => ?_⟩, fun s hs => ?_⟩
  · rw [hlen] at hi
    obtain ⟨h1, ⟨g, off, ha, hg, hc⟩, _⟩ := hr i hi
    refine ⟨g, off, ha, hg, fun j u hu => ?_⟩
    simp only [List.getElem_map, List.getElem_range] at hu
    rw [← ((hex i).choose_spec hi).1] at hu
    have hj : j < 3 := by have := (List.getElem?_eq_some_iff.1 hu).1; omega
    rw [Nat.add_assoc, hc j hj]
    exact hu
  · obtain ⟨i, hi, rfl⟩ := List.mem_map.1 hs
    exact ((hex i).choose_spec (List.mem_range.1 hi)).2
set_option maxHeartbeats 1000000 in
set_option maxRecDepth 100000 in
theorem same_any (v1 v2 : Value) (P1 P2 : Nat → Prop) (L : List Nat) (w : World) (h1 : SlAt w P1 v1 (u16s L)) (h2 : SlAt w P2 v2 (u16s L)) (hL : L.length ≤ 140737488355328) :
    Calls Try.prog 14 #[v1, v2] w fun e w' => e = .returned (.bool true) ∧ Mod (fun _ => False) w w' := by
  obtain ⟨a1, cap1, rfl, hcap1, hx1⟩ := h1.form
  obtain ⟨a2, cap2, rfl, hcap2, hx2⟩ := h2.form
  clear h1 h2
  rw [u16s_length] at hcap1 hcap2 ⊢
  have t0 : ((L.length : Int) != (L.length : Int)) = false := by simp
  go_enter Try.func14, Try.ntmps14
  go_wp2
  go_loopw [4, 5] (fun r i wr => ∃ (k : Nat), k ≤ L.length ∧ r = .bool false ∧ i = .int .i64 k ∧ Hid (Mod (fun _ => False) w wr)) (fun _ i _ => L.length - (intOf i).toNat)
  case atStart => exact ⟨0, by omega, rfl, rfl, Mod.refl _ _⟩
  case round =>
    obtain ⟨k, hk, rfl, rfl, HM⟩ := hrel
    by_cases hlt : k < L.length
    · obtain ⟨g1, o1, rfl, _, hg1, hc1⟩ := hx1 k _ (u16s_get hlt)
      obtain ⟨g2, o2, rfl, _, hg2, hc2⟩ := hx2 k _ (u16s_get hlt)
      generalize L[k] = s at *
      have t1 : decide ((k : Int) < (L.length : Int)) = true := by simp; omega
      have c0 := keepR HM.out hc1
      have d0 := keepR HM.out hc2
      have hne : ((s : Int) != (s : Int)) = false := by simp
      have i1 : (0 : Int) ≤ (k : Int) := by omega
      have i2 : (k : Int) < (L.length : Int) := by omega
      have i3 : (L.length : Int) ≤ (cap1 : Int) := by omega
      have i4 : (L.length : Int) ≤ (cap2 : Int) := by omega
      clear hc1 hc2 hx1 hx2
      go_wp2
      go_quiet (fail)
      go_wp2
      go_roundw
      case rel => exact ⟨k + 1, hlt, rfl, by go_num, Lib.hid (by first | exact HM.out | exact HM.out.drewN _ | exact HM.out.drew)⟩
      case measure => simp [intOf]; omega
    · obtain rfl : k = L.length := by omega
      have t1 : decide ((L.length : Int) < (L.length : Int)) = false := by simp
      clear hx1 hx2
      go_wp2
      go_ret
      exact ⟨rfl, HM.out⟩
end Go.Proofs.Ytcadkaedahoefaa
