/- The tables of the library, as the rows list them (chapter 24).
   A slice of stats.
   An argument that is a stat, or a row of stats.
   An argument that is a message. -/
import Derived.Test.YtklpopmjpgdjnaaGreatDoorQGa
import Derived.Test.YtklpopmjpgdjnaaGreatDoorQPlain
import Derived.Test.YtklpopmjpgdjnaaGreatDoorTie
import Derived.Test.YtklpopmjpgdjnaaGreatDoorCards
import Derived.Lib.LaidU8T
import Derived.LaidMore
import Derived.Lay
import Derived.SevenTiedAt
import Derived.Stop.Joined
import Derived.Test.YtklpopmjpgdjnaaGreatDoorQGb
import Derived.Test.YtklpopmjpgdjnaaGreatDoorQGc
import Derived.SizedLaws
import Derived.Test.YtklpopmjpgdjnaaGreatDoorQLawLong
import Derived.SliceStrings
set_option linter.unusedVariables false
set_option linter.unusedSimpArgs false
namespace Go.Proofs.YtklpopmjpgdjnaaGreatDoor
open Go.RowKit Go.Shelf

theorem first_data : Rows.laid_unicode_utf8_first = Lib.firstData := by kernel_rfl
theorem accept_data : (Rows.laid_unicode_utf8_acceptRanges : DataW Unit) = Lib.acceptData := by kernel_rfl
theorem tabs_of_laid (W : World) (h : laidMetH Tryz.prog [("unicode/utf8.acceptRanges", Rows.laid_unicode_utf8_acceptRanges), ("unicode/utf8.first", Rows.laid_unicode_utf8_first)] W) : Tabs W := by
  rw [MakeChecks.laidMetH_plain _ _ _ (by kernel_rfl)] at h
  have h3 := Lib.laidMet.reads h (n := "unicode/utf8.first") (d := Rows.laid_unicode_utf8_first) (.tail _ (.head _))
  have h4 := Lib.laidMet.reads h (n := "unicode/utf8.acceptRanges") (d := Rows.laid_unicode_utf8_acceptRanges) (.head _)
  rw [first_data] at h3
  rw [accept_data] at h4
  exact utf8Tabs_of_readsT (ρ := Tryz.lays196_ren) (U8Types.of196 Tryz.lays196) ⟨by kernel_rfl, by kernel_rfl, by kernel_rfl, by kernel_rfl, by kernel_rfl, by kernel_rfl, by kernel_rfl⟩ h3 h4
end Go.Proofs.YtklpopmjpgdjnaaGreatDoor
namespace Go.Proofs.YtklpopmjpgdjnaaGreatDoor
open Go.RowKit

/-- a slice of stats that reads as l; its block meets P -/
def StsAt (w : World) (P : Nat → Prop) (v : Value) (l : List St) : Prop :=
  (l = [] ∧ ∃ a c, v = .slice a 0 c) ∨ ∃ g off cap, v = .slice (some ⟨g, off, none⟩) l.length cap ∧ P g ∧ g < w.heap.size ∧ l.length ≤ cap ∧
    ∀ j s, l[j]? = some s → ∀ i u, s.cells[i]? = some u → w.cell? ⟨g, off + j * 13 + i, none⟩ = some u
theorem StsAt.mod {w w' : World} {P S : Nat → Prop} {v : Value} {l : List St} (h : StsAt w P v l) (hm : Mod S w w') (hp : ∀ g, P g → g < w.heap.size → ¬ S g) : StsAt w' P v l := by
  rcases h with h | ⟨g, off, cap, h1, h2, h3, h4, h5⟩
  · exact .inl h
  · exact .inr ⟨g, off, cap, h1, h2, Nat.lt_of_lt_of_le h3 hm.size, h4, fun j s hj i u hu => (World.cell?_of_block (hm.block g h3 (hp g h2 h3))).trans (h5 j s hj i u hu)⟩
theorem StsAt.imp {w : World} {P Q : Nat → Prop} {v : Value} {l : List St} (h : StsAt w P v l) (hp : ∀ g, P g → Q g) : StsAt w Q v l := by
  rcases h with h | ⟨g, off, cap, h1, h2, h3⟩
  · exact .inl h
  · exact .inr ⟨g, off, cap, h1, hp g h2, h3⟩
theorem StsAt.form {w : World} {P : Nat → Prop} {v : Value} {l : List St} (h : StsAt w P v l) : ∃ a cap, v = .slice a l.length cap ∧ l.length ≤ cap ∧
    ∀ j s, l[j]? = some s → ∃ g off, a = some ⟨g, off, none⟩ ∧ P g ∧ g < w.heap.size ∧ ∀ i u, s.cells[i]? = some u → w.cell? ⟨g, off + j * 13 + i, none⟩ = some u := by
  rcases h with ⟨rfl, a, c, rfl⟩ | ⟨g, off, cap, h1, h2, h3, h4, h5⟩
  · exact ⟨a, c, rfl, Nat.zero_le _, fun j u hj => by simp at hj⟩
  · exact ⟨_, cap, h1, h4, fun j s hj => ⟨g, off, rfl, h2, h3, h5 j s hj⟩⟩

theorem flat_get (L : List St) : ∀ j s, L[j]? = some s → ∀ i, i < 13 → (L.flatMap St.cells)[j * 13 + i]? = s.cells[i]? := by
  induction L with
  | nil => intro j s h; cases h
  | cons a L ih =>
    intro j s h i hi
    rw [List.flatMap_cons]
    cases j with
    | zero =>
      simp at h
      subst h
      rw [Nat.zero_mul, Nat.zero_add, List.getElem?_append_left (by exact hi)]
    | succ j =>
      rw [List.getElem?_append_right (by show 13 ≤ _; omega), ← ih j s h i hi]
      congr 1
      show (j + 1) * 13 + i - 13 = _
      omega
theorem stsFlat (W : World) (P : Nat → Prop) (b : Nat) (L : List St) (n : Nat) (e : TypeId) (h : W.heap[b]? = some (.cells (L.flatMap St.cells).toArray e (0, 0))) (hn : L.length ≤ n) (hP : P b) : StsAt W P (.slice (some ⟨b, 0, none⟩) L.length n) L := by
  refine Or.inr ⟨b, 0, n, rfl, hP, lt_of h, hn, fun j s hj i u hu => ?_⟩
  have hi : i < 13 := (List.getElem?_eq_some_iff.1 hu).1
  rw [cell_of h, Nat.zero_add, List.getElem?_toArray, flat_get L j s hj i hi]
  exact hu
def sumS (l : List St) : Nat := (l.map fun s => s.n.size + s.u.size + s.g.size + s.m.size).sum
theorem sumS_mem {l : List St} {s : St} (h : s ∈ l) : s.n.size + s.u.size + s.g.size + s.m.size ≤ sumS l := by
  induction l with
  | nil => cases h
  | cons a l ih =>
    simp only [sumS, List.map_cons, List.sum_cons]
    rcases List.mem_cons.1 h with rfl | h
    · omega
    · have := ih h
      unfold sumS at this
      omega
def longS (l : List St) : Bool := decide (60 < l.length ∨ 262144 < sumS l)
theorem sumS_take (l : List St) (k : Nat) (h : k < l.length) : sumS (l.take (k + 1)) = sumS (l.take k) + ((l[k]).n.size + (l[k]).u.size + (l[k]).g.size + (l[k]).m.size) := by
  rw [List.take_succ_eq_append_getElem h]
  simp only [sumS, List.map_append, List.sum_append, List.map_cons, List.map_nil, List.sum_cons, List.sum_nil, Nat.add_zero]
theorem sumS_le (l : List St) (B : Nat) (h : ∀ s ∈ l, s.n.size ≤ B ∧ s.u.size ≤ B ∧ s.g.size ≤ B ∧ s.m.size ≤ B) : sumS l ≤ l.length * (4 * B) := by
  induction l with
  | nil => simp [sumS]
  | cons a l ih =>
    have h1 := ih fun s hs => h s (List.mem_cons_of_mem _ hs)
    have h2 := h a (List.mem_cons_self ..)
    simp only [sumS, List.map_cons, List.sum_cons, List.length_cons] at *
    rw [Nat.add_mul]
    omega

end Go.Proofs.YtklpopmjpgdjnaaGreatDoor
namespace Go.Proofs.YtklpopmjpgdjnaaGreatDoor
open Go.ChangeShapes Go.WideShapes Go.ChangeAt Go.RowKit

theorem fld1 {cs : List Value} {k : Nat} {c : Value} (h : cs[k]? = some c) : (cs.drop k).take 1 = [c] := by
  obtain ⟨hk, rfl⟩ := List.getElem?_eq_some_iff.1 h
  rw [List.drop_eq_getElem_cons hk]; rfl
theorem wf_lt {k : IntKind} {x : Int} {m : Int} (h : (Lit.int k x).wf = true) (h0 : k.min = 0) (h1 : k.max = m) : ∃ n : Nat, x = n ∧ (n : Int) ≤ m := by
  simp only [Lit.wf, Bool.and_eq_true, decide_eq_true_eq, h0, h1] at h
  exact ⟨x.toNat, by omega, by omega⟩
theorem list13 {α : Type} (l : List α) (h : l.length = 13) : ∃ c0 c1 c2 c3 c4 c5 c6 c7 c8 c9 c10 c11 c12, l = [c0, c1, c2, c3, c4, c5, c6, c7, c8, c9, c10, c11, c12] := by
  match l, h with
  | [c0, c1, c2, c3, c4, c5, c6, c7, c8, c9, c10, c11, c12], _ => exact ⟨_, _, _, _, _, _, _, _, _, _, _, _, _, rfl⟩
theorem list11 {α : Type} (l : List α) (h : l.length = 11) : ∃ c0 c1 c2 c3 c4 c5 c6 c7 c8 c9 c10, l = [c0, c1, c2, c3, c4, c5, c6, c7, c8, c9, c10] := by
  match l, h with
  | [c0, c1, c2, c3, c4, c5, c6, c7, c8, c9, c10], _ => exact ⟨_, _, _, _, _, _, _, _, _, _, _, rfl⟩
theorem list3 {α : Type} (l : List α) (h : l.length = 3) : ∃ c0 c1 c2, l = [c0, c1, c2] := by
  match l, h with
  | [c0, c1, c2], _ => exact ⟨_, _, _, rfl⟩

set_option maxRecDepth 100000 in
set_option maxHeartbeats 2000000 in
theorem trod_stat {H : Type} {enc : TypeId × Value → H} {W : World} {fuel : Nat} {cs : List Value} {x : DataW H × List MemPlace} (h : DataW.trod enc Tryz.prog W 0 (fun _ => true) true fuel 31 cs = some x) :
    ∃ s : St, cs = s.cells ∧ s.Ok ∧ ((∀ k ∈ x.1.weights Tryz.prog 31, k ≤ reachBytes) → s.n.size ≤ reachBytes ∧ s.u.size ≤ reachBytes ∧ s.g.size ≤ reachBytes ∧ s.m.size ≤ reachBytes) := by
  obtain ⟨xs, fu, rfl, rfl, hl, hlen, hf⟩ := DataW.trod_struct Tryz.underlying31 h
  rw [show Tryz.prog.cellsOf 31 = 13 from by kernel_rfl] at hl
  obtain ⟨c0, c1, c2, c3, c4, c5, c6, c7, c8, c9, c10, c11, c12, rfl⟩ := list13 cs hl
  obtain ⟨y0, y1, y2, y3, y4, y5, y6, y7, y8, y9, y10, rfl⟩ := list11 xs hlen
  have gc0 : DataW.trod enc Tryz.prog W 0 (fun _ => true) true fu 24 [c0] = some y0 := by
    have h : DataW.trod enc Tryz.prog W 0 (fun _ => true) true fu 24 (List.take (Tryz.prog.cellsOf 24) (List.drop 0 [c0, c1, c2, c3, c4, c5, c6, c7, c8, c9, c10, c11, c12])) = some y0 := hf 0 _ rfl
    rw [show Tryz.prog.cellsOf 24 = 1 from by kernel_rfl] at h
    exact h
  obtain ⟨xc0, ec0, _, wc0⟩ := DataW.trod_int Tryz.underlying24 gc0
  obtain ⟨ty, rfl, bty⟩ := wf_lt (m := 65535) wc0 rfl rfl
  obtain rfl : c0 = .int .u16 ty := by simpa using ec0
  clear gc0 ec0 wc0
  have gc1 : DataW.trod enc Tryz.prog W 0 (fun _ => true) true fu 22 [c1] = some y1 := by
    have h : DataW.trod enc Tryz.prog W 0 (fun _ => true) true fu 22 (List.take (Tryz.prog.cellsOf 22) (List.drop 1 [.int .u16 ty, c1, c2, c3, c4, c5, c6, c7, c8, c9, c10, c11, c12])) = some y1 := hf 1 _ rfl
    rw [show Tryz.prog.cellsOf 22 = 1 from by kernel_rfl] at h
    exact h
  obtain ⟨xc1, ec1, _, wc1⟩ := DataW.trod_int Tryz.underlying22 gc1
  obtain ⟨dev, rfl, bdev⟩ := wf_lt (m := 4294967295) wc1 rfl rfl
  obtain rfl : c1 = .int .u32 dev := by simpa using ec1
  clear gc1 ec1 wc1
  have gc5 : DataW.trod enc Tryz.prog W 0 (fun _ => true) true fu 22 [c5] = some y3 := by
    have h : DataW.trod enc Tryz.prog W 0 (fun _ => true) true fu 22 (List.take (Tryz.prog.cellsOf 22) (List.drop 5 [.int .u16 ty, .int .u32 dev, c2, c3, c4, c5, c6, c7, c8, c9, c10, c11, c12])) = some y3 := hf 3 _ rfl
    rw [show Tryz.prog.cellsOf 22 = 1 from by kernel_rfl] at h
    exact h
  obtain ⟨xc5, ec5, _, wc5⟩ := DataW.trod_int Tryz.underlying22 gc5
  obtain ⟨mo, rfl, bmo⟩ := wf_lt (m := 4294967295) wc5 rfl rfl
  obtain rfl : c5 = .int .u32 mo := by simpa using ec5
  clear gc5 ec5 wc5
  have gc6 : DataW.trod enc Tryz.prog W 0 (fun _ => true) true fu 22 [c6] = some y4 := by
    have h : DataW.trod enc Tryz.prog W 0 (fun _ => true) true fu 22 (List.take (Tryz.prog.cellsOf 22) (List.drop 6 [.int .u16 ty, .int .u32 dev, c2, c3, c4, .int .u32 mo, c6, c7, c8, c9, c10, c11, c12])) = some y4 := hf 4 _ rfl
    rw [show Tryz.prog.cellsOf 22 = 1 from by kernel_rfl] at h
    exact h
  obtain ⟨xc6, ec6, _, wc6⟩ := DataW.trod_int Tryz.underlying22 gc6
  obtain ⟨at_, rfl, bat_⟩ := wf_lt (m := 4294967295) wc6 rfl rfl
  obtain rfl : c6 = .int .u32 at_ := by simpa using ec6
  clear gc6 ec6 wc6
  have gc7 : DataW.trod enc Tryz.prog W 0 (fun _ => true) true fu 22 [c7] = some y5 := by
    have h : DataW.trod enc Tryz.prog W 0 (fun _ => true) true fu 22 (List.take (Tryz.prog.cellsOf 22) (List.drop 7 [.int .u16 ty, .int .u32 dev, c2, c3, c4, .int .u32 mo, .int .u32 at_, c7, c8, c9, c10, c11, c12])) = some y5 := hf 5 _ rfl
    rw [show Tryz.prog.cellsOf 22 = 1 from by kernel_rfl] at h
    exact h
  obtain ⟨xc7, ec7, _, wc7⟩ := DataW.trod_int Tryz.underlying22 gc7
  obtain ⟨mt, rfl, bmt⟩ := wf_lt (m := 4294967295) wc7 rfl rfl
  obtain rfl : c7 = .int .u32 mt := by simpa using ec7
  clear gc7 ec7 wc7
  have gc8 : DataW.trod enc Tryz.prog W 0 (fun _ => true) true fu 26 [c8] = some y6 := by
    have h : DataW.trod enc Tryz.prog W 0 (fun _ => true) true fu 26 (List.take (Tryz.prog.cellsOf 26) (List.drop 8 [.int .u16 ty, .int .u32 dev, c2, c3, c4, .int .u32 mo, .int .u32 at_, .int .u32 mt, c8, c9, c10, c11, c12])) = some y6 := hf 6 _ rfl
    rw [show Tryz.prog.cellsOf 26 = 1 from by kernel_rfl] at h
    exact h
  obtain ⟨xc8, ec8, _, wc8⟩ := DataW.trod_int Tryz.underlying26 gc8
  obtain ⟨len, rfl, blen⟩ := wf_lt (m := 18446744073709551615) wc8 rfl rfl
  obtain rfl : c8 = .int .u64 len := by simpa using ec8
  clear gc8 ec8 wc8
  have gc9 : DataW.trod enc Tryz.prog W 0 (fun _ => true) true fu 9 [c9] = some y7 := by
    have h : DataW.trod enc Tryz.prog W 0 (fun _ => true) true fu 9 (List.take (Tryz.prog.cellsOf 9) (List.drop 9 [.int .u16 ty, .int .u32 dev, c2, c3, c4, .int .u32 mo, .int .u32 at_, .int .u32 mt, .int .u64 len, c9, c10, c11, c12])) = some y7 := hf 7 _ rfl
    rw [show Tryz.prog.cellsOf 9 = 1 from by kernel_rfl] at h
    exact h
  obtain ⟨sn, ec9, dc9, wc9⟩ := DataW.trod_string Tryz.underlying9 gc9
  obtain rfl : c9 = .string sn := by simpa using ec9
  subst dc9
  clear gc9 ec9
  have gc10 : DataW.trod enc Tryz.prog W 0 (fun _ => true) true fu 9 [c10] = some y8 := by
    have h : DataW.trod enc Tryz.prog W 0 (fun _ => true) true fu 9 (List.take (Tryz.prog.cellsOf 9) (List.drop 10 [.int .u16 ty, .int .u32 dev, c2, c3, c4, .int .u32 mo, .int .u32 at_, .int .u32 mt, .int .u64 len, .string sn, c10, c11, c12])) = some y8 := hf 8 _ rfl
    rw [show Tryz.prog.cellsOf 9 = 1 from by kernel_rfl] at h
    exact h
  obtain ⟨su, ec10, dc10, wc10⟩ := DataW.trod_string Tryz.underlying9 gc10
  obtain rfl : c10 = .string su := by simpa using ec10
  subst dc10
  clear gc10 ec10
  have gc11 : DataW.trod enc Tryz.prog W 0 (fun _ => true) true fu 9 [c11] = some y9 := by
    have h : DataW.trod enc Tryz.prog W 0 (fun _ => true) true fu 9 (List.take (Tryz.prog.cellsOf 9) (List.drop 11 [.int .u16 ty, .int .u32 dev, c2, c3, c4, .int .u32 mo, .int .u32 at_, .int .u32 mt, .int .u64 len, .string sn, .string su, c11, c12])) = some y9 := hf 9 _ rfl
    rw [show Tryz.prog.cellsOf 9 = 1 from by kernel_rfl] at h
    exact h
  obtain ⟨sg, ec11, dc11, wc11⟩ := DataW.trod_string Tryz.underlying9 gc11
  obtain rfl : c11 = .string sg := by simpa using ec11
  subst dc11
  clear gc11 ec11
  have gc12 : DataW.trod enc Tryz.prog W 0 (fun _ => true) true fu 9 [c12] = some y10 := by
    have h : DataW.trod enc Tryz.prog W 0 (fun _ => true) true fu 9 (List.take (Tryz.prog.cellsOf 9) (List.drop 12 [.int .u16 ty, .int .u32 dev, c2, c3, c4, .int .u32 mo, .int .u32 at_, .int .u32 mt, .int .u64 len, .string sn, .string su, .string sg, c12])) = some y10 := hf 10 _ rfl
    rw [show Tryz.prog.cellsOf 9 = 1 from by kernel_rfl] at h
    exact h
  obtain ⟨sm, ec12, dc12, wc12⟩ := DataW.trod_string Tryz.underlying9 gc12
  obtain rfl : c12 = .string sm := by simpa using ec12
  subst dc12
  clear gc12 ec12
  have hq : DataW.trod enc Tryz.prog W 0 (fun _ => true) true fu 28 [c2, c3, c4] = some y2 := by
    have h : DataW.trod enc Tryz.prog W 0 (fun _ => true) true fu 28 (List.take (Tryz.prog.cellsOf 28) (List.drop 2 [.int .u16 ty, .int .u32 dev, c2, c3, c4, .int .u32 mo, .int .u32 at_, .int .u32 mt, .int .u64 len, .string sn, .string su, .string sg, .string sm])) = some y2 := hf 2 _ rfl
    rw [show Tryz.prog.cellsOf 28 = 3 from by kernel_rfl] at h
    exact h
  clear hf
  obtain ⟨qs, fu, rfl, rfl, _, hql, hqf⟩ := DataW.trod_struct Tryz.underlying28 hq
  obtain ⟨z0, z1, z2, rfl⟩ := list3 qs hql
  have gc2 : DataW.trod enc Tryz.prog W 0 (fun _ => true) true fu 5 [c2] = some z0 := by
    have h : DataW.trod enc Tryz.prog W 0 (fun _ => true) true fu 5 (List.take (Tryz.prog.cellsOf 5) (List.drop 0 [c2, c3, c4])) = some z0 := hqf 0 _ rfl
    rw [show Tryz.prog.cellsOf 5 = 1 from by kernel_rfl] at h
    exact h
  obtain ⟨xc2, ec2, _, wc2⟩ := DataW.trod_int Tryz.underlying5 gc2
  obtain ⟨qt, rfl, bqt⟩ := wf_lt (m := 255) wc2 rfl rfl
  obtain rfl : c2 = .int .u8 qt := by simpa using ec2
  clear gc2 ec2 wc2
  have gc3 : DataW.trod enc Tryz.prog W 0 (fun _ => true) true fu 22 [c3] = some z1 := by
    have h : DataW.trod enc Tryz.prog W 0 (fun _ => true) true fu 22 (List.take (Tryz.prog.cellsOf 22) (List.drop 1 [.int .u8 qt, c3, c4])) = some z1 := hqf 1 _ rfl
    rw [show Tryz.prog.cellsOf 22 = 1 from by kernel_rfl] at h
    exact h
  obtain ⟨xc3, ec3, _, wc3⟩ := DataW.trod_int Tryz.underlying22 gc3
  obtain ⟨qv, rfl, bqv⟩ := wf_lt (m := 4294967295) wc3 rfl rfl
  obtain rfl : c3 = .int .u32 qv := by simpa using ec3
  clear gc3 ec3 wc3
  have gc4 : DataW.trod enc Tryz.prog W 0 (fun _ => true) true fu 26 [c4] = some z2 := by
    have h : DataW.trod enc Tryz.prog W 0 (fun _ => true) true fu 26 (List.take (Tryz.prog.cellsOf 26) (List.drop 2 [.int .u8 qt, .int .u32 qv, c4])) = some z2 := hqf 2 _ rfl
    rw [show Tryz.prog.cellsOf 26 = 1 from by kernel_rfl] at h
    exact h
  obtain ⟨xc4, ec4, _, wc4⟩ := DataW.trod_int Tryz.underlying26 gc4
  obtain ⟨qp, rfl, bqp⟩ := wf_lt (m := 18446744073709551615) wc4 rfl rfl
  obtain rfl : c4 = .int .u64 qp := by simpa using ec4
  clear gc4 ec4 wc4
  refine ⟨⟨ty, dev, qt, qv, qp, mo, at_, mt, len, sn, su, sg, sm⟩, rfl, ⟨by show ty < _; omega, by show dev < _; omega, by show qt < _; omega, by show qv < _; omega, by show qp < _; omega, by show mo < _; omega, by show at_ < _; omega, by show mt < _; omega, by show len < _; omega⟩, fun hw => ?_⟩
  exact ⟨by have := hw sn.data.toList.length (by simp [DataW.weights, DataW.weightsEach, Tryz.underlying31]); rwa [Array.length_toList] at this, by have := hw su.data.toList.length (by simp [DataW.weights, DataW.weightsEach, Tryz.underlying31]); rwa [Array.length_toList] at this, by have := hw sg.data.toList.length (by simp [DataW.weights, DataW.weightsEach, Tryz.underlying31]); rwa [Array.length_toList] at this, by have := hw sm.data.toList.length (by simp [DataW.weights, DataW.weightsEach, Tryz.underlying31]); rwa [Array.length_toList] at this⟩
set_option maxRecDepth 100000 in
/-- an argument that is a stat -/
theorem arg_stat {H : Type} {enc : TypeId × Value → H} {W : World} {base : Nat} {v : Value} {d : DataW H} {ps : List MemPlace} (hval : Value.okWide Tryz.prog W .any base 31 v)
    (h : DataW.Trod enc Tryz.prog W 0 (fun _ => true) true 31 v d ps) : ∃ s : St, v = s.v ∧ s.Ok ∧ ((∀ k ∈ d.weights Tryz.prog 31, k ≤ reachBytes) → s.n.size ≤ reachBytes ∧ s.u.size ≤ reachBytes ∧ s.g.size ≤ reachBytes ∧ s.m.size ≤ reachBytes) := by
  obtain ⟨cs, rfl, hsz⟩ := okWide_struct Tryz.underlying31 hval
  obtain ⟨fuel, hf⟩ := h
  obtain ⟨s, hs, hk, hw⟩ := trod_stat hf
  refine ⟨s, ?_, hk, hw⟩
  simp only [Value.cells] at hs
  show Value.agg cs = .agg s.cells.toArray
  rw [← hs]
theorem weightsAll_mem {H : Type} {P : Program} {e : TypeId} {d : DataW H} {k : Nat} : ∀ {ds : List (DataW H)}, d ∈ ds → k ∈ d.weights P e → k ∈ DataW.weightsAll P e ds
  | [], h, _ => by cases h
  | d0 :: ds, h, hk => by
    simp only [DataW.weightsAll, List.mem_append]
    rcases List.mem_cons.1 h with rfl | h
    · exact Or.inl hk
    · exact Or.inr (weightsAll_mem h hk)
end Go.Proofs.YtklpopmjpgdjnaaGreatDoor
namespace Go.Proofs.YtklpopmjpgdjnaaGreatDoor
open Go.ChangeShapes Go.WideShapes Go.ChangeAt Go.RowKit

theorem trod_qid {H : Type} {enc : TypeId × Value → H} {W : World} {fuel : Nat} {cs : List Value} {x : DataW H × List MemPlace} (h : DataW.trod enc Tryz.prog W 0 (fun _ => true) true fuel 28 cs = some x) :
    ∃ q : Qd, cs = q.cells ∧ q.Ok := by
  obtain ⟨qs, fu, rfl, rfl, hl, hql, hqf⟩ := DataW.trod_struct Tryz.underlying28 h
  rw [show Tryz.prog.cellsOf 28 = 3 from by kernel_rfl] at hl
  obtain ⟨c2, c3, c4, rfl⟩ := list3 cs hl
  obtain ⟨z0, z1, z2, rfl⟩ := list3 qs hql
  have gc2 : DataW.trod enc Tryz.prog W 0 (fun _ => true) true fu 5 [c2] = some z0 := by
    have h : DataW.trod enc Tryz.prog W 0 (fun _ => true) true fu 5 (List.take (Tryz.prog.cellsOf 5) (List.drop 0 [c2, c3, c4])) = some z0 := hqf 0 _ rfl
    rw [show Tryz.prog.cellsOf 5 = 1 from by kernel_rfl] at h
    exact h
  obtain ⟨xc2, ec2, _, wc2⟩ := DataW.trod_int Tryz.underlying5 gc2
  obtain ⟨qt, rfl, bqt⟩ := wf_lt (m := 255) wc2 rfl rfl
  obtain rfl : c2 = .int .u8 qt := by simpa using ec2
  clear gc2 ec2 wc2
  have gc3 : DataW.trod enc Tryz.prog W 0 (fun _ => true) true fu 22 [c3] = some z1 := by
    have h : DataW.trod enc Tryz.prog W 0 (fun _ => true) true fu 22 (List.take (Tryz.prog.cellsOf 22) (List.drop 1 [.int .u8 qt, c3, c4])) = some z1 := hqf 1 _ rfl
    rw [show Tryz.prog.cellsOf 22 = 1 from by kernel_rfl] at h
    exact h
  obtain ⟨xc3, ec3, _, wc3⟩ := DataW.trod_int Tryz.underlying22 gc3
  obtain ⟨qv, rfl, bqv⟩ := wf_lt (m := 4294967295) wc3 rfl rfl
  obtain rfl : c3 = .int .u32 qv := by simpa using ec3
  clear gc3 ec3 wc3
  have gc4 : DataW.trod enc Tryz.prog W 0 (fun _ => true) true fu 26 [c4] = some z2 := by
    have h : DataW.trod enc Tryz.prog W 0 (fun _ => true) true fu 26 (List.take (Tryz.prog.cellsOf 26) (List.drop 2 [.int .u8 qt, .int .u32 qv, c4])) = some z2 := hqf 2 _ rfl
    rw [show Tryz.prog.cellsOf 26 = 1 from by kernel_rfl] at h
    exact h
  obtain ⟨xc4, ec4, _, wc4⟩ := DataW.trod_int Tryz.underlying26 gc4
  obtain ⟨qp, rfl, bqp⟩ := wf_lt (m := 18446744073709551615) wc4 rfl rfl
  obtain rfl : c4 = .int .u64 qp := by simpa using ec4
  clear gc4 ec4 wc4
  exact ⟨⟨qt, qv, qp⟩, rfl, ⟨by show qt < _; omega, by show qv < _; omega, by show qp < _; omega⟩⟩
theorem strs_mem {H : Type} {l : List ByteArray} {s : ByteArray} (h : s ∈ l) : (DataW.lit (.string s.data.toList) : DataW H) ∈ strs l := List.mem_map.2 ⟨s, h, rfl⟩
theorem trod_strs {H : Type} {enc : TypeId × Value → H} {W : World} {fuel : Nat} {v : Value} {x : DataW H × List MemPlace} (h : DataW.trod enc Tryz.prog W 0 (fun _ => true) true fuel 25 [v] = some x) :
    ∃ l : List ByteArray, SlAt W (fun _ => True) v (l.map Value.string) ∧ ((∀ k ∈ x.1.weights Tryz.prog 25, k ≤ reachBytes) → l.length ≤ reachBytes ∧ ∀ s ∈ l, s.size ≤ reachBytes) := by
  rcases open_strings Tryz.underlying25 Tryz.underlying9 (by kernel_rfl) h with ⟨hcs, hx⟩ | ⟨a, len, cap, ss, hcs, _, hl, hm, hz, rfl, hcell, hws⟩
  · simp only [List.cons.injEq, and_true] at hcs
    exact ⟨[], .inl ⟨rfl, none, 0, hcs⟩, fun _ => ⟨Nat.zero_le _, fun s hs => by cases hs⟩⟩
  · simp only [List.cons.injEq, and_true] at hcs
    subst hcs
    simp only [if_true] at hz
    have hlen : (ss.take len).length = len := by rw [List.length_take]; omega
    refine ⟨ss.take len, ?_, fun hw => ⟨?_, ?_⟩⟩
    · by_cases h0 : len = 0
      · exact .inl ⟨by rw [h0]; rfl, _, _, by rw [h0]⟩
      · have hc0 := hcell 0 (by omega)
        have ha : a = ⟨a.block, a.off, none⟩ := addr_form hc0
        have hadd : ∀ i, a.add i = ⟨a.block, a.off + i, none⟩ := by
          intro i
          unfold Addr.add
          split
          · rename_i e; subst e; exact ha
          · rfl
        refine .inr ⟨a.block, a.off, cap, by rw [List.length_map, hlen, ← ha], trivial, World.block_lt_of_cell? _ _ hc0, by rw [List.length_map, hlen]; exact hl, fun j u hj => ?_⟩
        rw [List.getElem?_map] at hj
        have hjl : j < len := by
          rcases Nat.lt_or_ge j len with g | g
          · exact g
          · rw [List.getElem?_eq_none (by omega)] at hj; cases hj
        rw [← hadd, hcell j (by omega)]
        rw [List.getElem?_take, if_pos hjl, List.getElem?_eq_getElem (by omega)] at hj
        rw [List.getD_eq_getElem?_getD, List.getElem?_eq_getElem (by omega)]
        exact hj
    · rw [hlen]
      have := hw (((strs (ss.take len) : List (DataW H)).length + (strs (ss.drop len) : List (DataW H)).length) * Tryz.prog.bytesOf 9) (by simp [DataW.weights, Tryz.underlying25])
      rw [show Tryz.prog.bytesOf 9 = 16 from by kernel_rfl, show (strs (ss.take len) : List (DataW H)).length = len from by rw [strs, List.length_map, hlen]] at this
      omega
    · intro s hs
      have := hw s.data.toList.length (by
        simp only [DataW.weights, Tryz.underlying25, List.mem_cons, List.mem_append]
        exact Or.inr (Or.inl (weightsAll_mem (strs_mem hs) (by simp [DataW.weights]))))
      rwa [Array.length_toList] at this
theorem trod_qids {H : Type} {enc : TypeId × Value → H} {W : World} {fuel : Nat} {v : Value} {x : DataW H × List MemPlace} (h : DataW.trod enc Tryz.prog W 0 (fun _ => true) true fuel 29 [v] = some x) :
    ∃ l : List Qd, RecsAt Qd.cells 3 W (fun _ => True) v l ∧ (∀ q ∈ l, q.Ok) ∧ ((∀ k ∈ x.1.weights Tryz.prog 29, k ≤ reachBytes) → l.length ≤ reachBytes) := by
  rcases Go.Deep.open_slice Tryz.underlying29 h with ⟨hcs, hx⟩ | ⟨a, len, m, m', n, D, Pl, hcs, _, hl, hm, hmm, rfl, hi⟩
  · simp only [List.cons.injEq, and_true] at hcs
    exact ⟨[], .inl ⟨rfl, none, 0, hcs⟩, (fun s hs => by cases hs), fun _ => Nat.zero_le _⟩
  · simp only [List.cons.injEq, and_true] at hcs
    subst hcs
    simp only [if_true] at hmm
    subst hmm
    rw [show Tryz.prog.cellsOf 28 = 3 from by kernel_rfl] at hi
    have hex : ∀ i, ∃ s : Qd, i < len → (∀ j, j < 3 → W.cell? ((a.add (i * 3)).add j) = s.cells[j]?) ∧ s.Ok := by
      intro i
      by_cases h : i < len
      · obtain ⟨cs', h1, h2⟩ := hi i (by omega)
        obtain ⟨s, rfl, hk⟩ := trod_qid h2
        exact ⟨s, fun _ => ⟨(World.cells?_some h1).2.2, hk⟩⟩
      · exact ⟨⟨0, 0, 0⟩, fun x => absurd x h⟩
    obtain ⟨S, hS'⟩ : ∃ S : Nat → Qd, ∀ i, i < len → (∀ j, j < 3 → W.cell? ((a.add (i * 3)).add j) = (S i).cells[j]?) ∧ (S i).Ok := ⟨fun i => (hex i).choose, fun i => (hex i).choose_spec⟩
    have hlen : ((List.range len).map S).length = len := by simp
    refine ⟨(List.range len).map S, ?_, ?_, fun hw => ?_⟩
    · by_cases h0 : len = 0
      · exact .inl ⟨by rw [h0]; rfl, _, _, by rw [h0]⟩
      · have hc0 := (hS' 0 (by omega)).1 0 (by omega)
        have ha : a = ⟨a.block, a.off, none⟩ := by
          have h3 := addr_form (v := .int .u8 (S 0).t) hc0
          rw [Nat.zero_mul] at h3
          obtain ⟨b, o, sp⟩ := a
          cases sp with
          | none => rfl
          | some _ => simp [Addr.add] at h3
        have hadd : ∀ x y, (a.add x).add y = ⟨a.block, a.off + x + y, none⟩ := fun x y => by rw [ha, add_plain, add_plain]
        rw [hadd] at hc0
        refine .inr ⟨a.block, a.off, m', by rw [hlen, ← ha], trivial, World.block_lt_of_cell? W ⟨a.block, a.off + 0 * 3 + 0, none⟩ (u := .int .u8 (S 0).t) hc0, by rw [hlen]; exact hl, fun j s hj i u hu => ?_⟩
        rw [List.getElem?_map] at hj
        have hjl : j < len := by
          rcases Nat.lt_or_ge j len with g | g
          · exact g
          · rw [List.getElem?_eq_none (by rw [List.length_range]; exact g)] at hj; cases hj
        rw [List.getElem?_range hjl] at hj
        injection hj with hj
        subst hj
        have hi13 : i < 3 := (List.getElem?_eq_some_iff.1 hu).1
        have := (hS' j hjl).1 i hi13
        rw [hadd] at this
        exact this.trans hu
    · intro s hs
      obtain ⟨i, hi2, rfl⟩ := List.mem_map.1 hs
      exact (hS' i (List.mem_range.1 hi2)).2
    · rw [hlen]
      have := hw ((len + (m' - len)) * Tryz.prog.bytesOf 28) (by simp [DataW.weights, Tryz.underlying29])
      rw [show Tryz.prog.bytesOf 28 = 16 from by kernel_rfl] at this
      omega

theorem list36 {α : Type} (l : List α) (h : l.length = 36) : ∃ c0 c1 c2 c3 c4 c5 c6 c7 c8 c9 c10 c11 c12 c13 c14 c15 c16 c17 c18 c19 c20 c21 c22 c23 c24 c25 c26 c27 c28 c29 c30 c31 c32 c33 c34 c35, l = [c0, c1, c2, c3, c4, c5, c6, c7, c8, c9, c10, c11, c12, c13, c14, c15, c16, c17, c18, c19, c20, c21, c22, c23, c24, c25, c26, c27, c28, c29, c30, c31, c32, c33, c34, c35] := by
  rcases l with _ | ⟨c0, l⟩
  · simp at h
  rcases l with _ | ⟨c1, l⟩
  · simp at h
  rcases l with _ | ⟨c2, l⟩
  · simp at h
  rcases l with _ | ⟨c3, l⟩
  · simp at h
  rcases l with _ | ⟨c4, l⟩
  · simp at h
  rcases l with _ | ⟨c5, l⟩
  · simp at h
  rcases l with _ | ⟨c6, l⟩
  · simp at h
  rcases l with _ | ⟨c7, l⟩
  · simp at h
  rcases l with _ | ⟨c8, l⟩
  · simp at h
  rcases l with _ | ⟨c9, l⟩
  · simp at h
  rcases l with _ | ⟨c10, l⟩
  · simp at h
  rcases l with _ | ⟨c11, l⟩
  · simp at h
  rcases l with _ | ⟨c12, l⟩
  · simp at h
  rcases l with _ | ⟨c13, l⟩
  · simp at h
  rcases l with _ | ⟨c14, l⟩
  · simp at h
  rcases l with _ | ⟨c15, l⟩
  · simp at h
  rcases l with _ | ⟨c16, l⟩
  · simp at h
  rcases l with _ | ⟨c17, l⟩
  · simp at h
  rcases l with _ | ⟨c18, l⟩
  · simp at h
  rcases l with _ | ⟨c19, l⟩
  · simp at h
  rcases l with _ | ⟨c20, l⟩
  · simp at h
  rcases l with _ | ⟨c21, l⟩
  · simp at h
  rcases l with _ | ⟨c22, l⟩
  · simp at h
  rcases l with _ | ⟨c23, l⟩
  · simp at h
  rcases l with _ | ⟨c24, l⟩
  · simp at h
  rcases l with _ | ⟨c25, l⟩
  · simp at h
  rcases l with _ | ⟨c26, l⟩
  · simp at h
  rcases l with _ | ⟨c27, l⟩
  · simp at h
  rcases l with _ | ⟨c28, l⟩
  · simp at h
  rcases l with _ | ⟨c29, l⟩
  · simp at h
  rcases l with _ | ⟨c30, l⟩
  · simp at h
  rcases l with _ | ⟨c31, l⟩
  · simp at h
  rcases l with _ | ⟨c32, l⟩
  · simp at h
  rcases l with _ | ⟨c33, l⟩
  · simp at h
  rcases l with _ | ⟨c34, l⟩
  · simp at h
  rcases l with _ | ⟨c35, l⟩
  · simp at h
  rcases l with _ | ⟨_, l⟩
  · exact ⟨_, _, _, _, _, _, _, _, _, _, _, _, _, _, _, _, _, _, _, _, _, _, _, _, _, _, _, _, _, _, _, _, _, _, _, _, rfl⟩
  · simp at h
theorem list22 {α : Type} (l : List α) (h : l.length = 22) : ∃ y0 y1 y2 y3 y4 y5 y6 y7 y8 y9 y10 y11 y12 y13 y14 y15 y16 y17 y18 y19 y20 y21, l = [y0, y1, y2, y3, y4, y5, y6, y7, y8, y9, y10, y11, y12, y13, y14, y15, y16, y17, y18, y19, y20, y21] := by
  rcases l with _ | ⟨y0, l⟩
  · simp at h
  rcases l with _ | ⟨y1, l⟩
  · simp at h
  rcases l with _ | ⟨y2, l⟩
  · simp at h
  rcases l with _ | ⟨y3, l⟩
  · simp at h
  rcases l with _ | ⟨y4, l⟩
  · simp at h
  rcases l with _ | ⟨y5, l⟩
  · simp at h
  rcases l with _ | ⟨y6, l⟩
  · simp at h
  rcases l with _ | ⟨y7, l⟩
  · simp at h
  rcases l with _ | ⟨y8, l⟩
  · simp at h
  rcases l with _ | ⟨y9, l⟩
  · simp at h
  rcases l with _ | ⟨y10, l⟩
  · simp at h
  rcases l with _ | ⟨y11, l⟩
  · simp at h
  rcases l with _ | ⟨y12, l⟩
  · simp at h
  rcases l with _ | ⟨y13, l⟩
  · simp at h
  rcases l with _ | ⟨y14, l⟩
  · simp at h
  rcases l with _ | ⟨y15, l⟩
  · simp at h
  rcases l with _ | ⟨y16, l⟩
  · simp at h
  rcases l with _ | ⟨y17, l⟩
  · simp at h
  rcases l with _ | ⟨y18, l⟩
  · simp at h
  rcases l with _ | ⟨y19, l⟩
  · simp at h
  rcases l with _ | ⟨y20, l⟩
  · simp at h
  rcases l with _ | ⟨y21, l⟩
  · simp at h
  rcases l with _ | ⟨_, l⟩
  · exact ⟨_, _, _, _, _, _, _, _, _, _, _, _, _, _, _, _, _, _, _, _, _, _, rfl⟩
  · simp at h
set_option maxRecDepth 100000 in
set_option maxHeartbeats 4000000 in
theorem trod_msg {H : Type} {enc : TypeId × Value → H} {W : World} {fuel : Nat} {cs : List Value} {x : DataW H × List MemPlace} (h : DataW.trod enc Tryz.prog W 0 (fun _ => true) true fuel 33 cs = some x) :
    ∃ (m : Msg) (vn vq : Value), cs = m.cells vn vq ∧ m.Ok ∧ SlAt W (fun _ => True) vn (m.names.map Value.string) ∧ RecsAt Qd.cells 3 W (fun _ => True) vq m.qids ∧ ((∀ k ∈ x.1.weights Tryz.prog 33, k ≤ reachBytes) → m.Reach) := by
  obtain ⟨xs, fu, rfl, rfl, hl, hlen, hf⟩ := DataW.trod_struct Tryz.underlying33 h
  rw [show Tryz.prog.cellsOf 33 = 36 from by kernel_rfl] at hl
  obtain ⟨c0, c1, c2, c3, c4, c5, c6, c7, c8, c9, c10, c11, c12, c13, c14, c15, c16, c17, c18, c19, c20, c21, c22, c23, c24, c25, c26, c27, c28, c29, c30, c31, c32, c33, c34, c35, rfl⟩ := list36 cs hl
  obtain ⟨y0, y1, y2, y3, y4, y5, y6, y7, y8, y9, y10, y11, y12, y13, y14, y15, y16, y17, y18, y19, y20, y21, rfl⟩ := list22 xs hlen
  have gc0 : DataW.trod enc Tryz.prog W 0 (fun _ => true) true fu 5 [c0] = some y0 := by
    have h : DataW.trod enc Tryz.prog W 0 (fun _ => true) true fu 5 (List.take (Tryz.prog.cellsOf 5) (List.drop 0 [c0, c1, c2, c3, c4, c5, c6, c7, c8, c9, c10, c11, c12, c13, c14, c15, c16, c17, c18, c19, c20, c21, c22, c23, c24, c25, c26, c27, c28, c29, c30, c31, c32, c33, c34, c35])) = some y0 := hf 0 _ rfl
    rw [show Tryz.prog.cellsOf 5 = 1 from by kernel_rfl] at h
    exact h
  obtain ⟨xc0, ec0, _, wc0⟩ := DataW.trod_int Tryz.underlying5 gc0
  obtain ⟨nty, rfl, bty⟩ := wf_lt (m := 255) wc0 rfl rfl
  obtain rfl : c0 = .int .u8 nty := by simpa using ec0
  clear gc0 ec0 wc0
  have gc1 : DataW.trod enc Tryz.prog W 0 (fun _ => true) true fu 24 [c1] = some y1 := by
    have h : DataW.trod enc Tryz.prog W 0 (fun _ => true) true fu 24 (List.take (Tryz.prog.cellsOf 24) (List.drop 1 [.int .u8 nty, c1, c2, c3, c4, c5, c6, c7, c8, c9, c10, c11, c12, c13, c14, c15, c16, c17, c18, c19, c20, c21, c22, c23, c24, c25, c26, c27, c28, c29, c30, c31, c32, c33, c34, c35])) = some y1 := hf 1 _ rfl
    rw [show Tryz.prog.cellsOf 24 = 1 from by kernel_rfl] at h
    exact h
  obtain ⟨xc1, ec1, _, wc1⟩ := DataW.trod_int Tryz.underlying24 gc1
  obtain ⟨ntag, rfl, btag⟩ := wf_lt (m := 65535) wc1 rfl rfl
  obtain rfl : c1 = .int .u16 ntag := by simpa using ec1
  clear gc1 ec1 wc1
  have gc2 : DataW.trod enc Tryz.prog W 0 (fun _ => true) true fu 22 [c2] = some y2 := by
    have h : DataW.trod enc Tryz.prog W 0 (fun _ => true) true fu 22 (List.take (Tryz.prog.cellsOf 22) (List.drop 2 [.int .u8 nty, .int .u16 ntag, c2, c3, c4, c5, c6, c7, c8, c9, c10, c11, c12, c13, c14, c15, c16, c17, c18, c19, c20, c21, c22, c23, c24, c25, c26, c27, c28, c29, c30, c31, c32, c33, c34, c35])) = some y2 := hf 2 _ rfl
    rw [show Tryz.prog.cellsOf 22 = 1 from by kernel_rfl] at h
    exact h
  obtain ⟨xc2, ec2, _, wc2⟩ := DataW.trod_int Tryz.underlying22 gc2
  obtain ⟨nmsize, rfl, bmsize⟩ := wf_lt (m := 4294967295) wc2 rfl rfl
  obtain rfl : c2 = .int .u32 nmsize := by simpa using ec2
  clear gc2 ec2 wc2
  have gc3 : DataW.trod enc Tryz.prog W 0 (fun _ => true) true fu 9 [c3] = some y3 := by
    have h : DataW.trod enc Tryz.prog W 0 (fun _ => true) true fu 9 (List.take (Tryz.prog.cellsOf 9) (List.drop 3 [.int .u8 nty, .int .u16 ntag, .int .u32 nmsize, c3, c4, c5, c6, c7, c8, c9, c10, c11, c12, c13, c14, c15, c16, c17, c18, c19, c20, c21, c22, c23, c24, c25, c26, c27, c28, c29, c30, c31, c32, c33, c34, c35])) = some y3 := hf 3 _ rfl
    rw [show Tryz.prog.cellsOf 9 = 1 from by kernel_rfl] at h
    exact h
  obtain ⟨sversion, ec3, dc3, wc3⟩ := DataW.trod_string Tryz.underlying9 gc3
  obtain rfl : c3 = .string sversion := by simpa using ec3
  subst dc3
  clear gc3 ec3
  have gc4 : DataW.trod enc Tryz.prog W 0 (fun _ => true) true fu 22 [c4] = some y4 := by
    have h : DataW.trod enc Tryz.prog W 0 (fun _ => true) true fu 22 (List.take (Tryz.prog.cellsOf 22) (List.drop 4 [.int .u8 nty, .int .u16 ntag, .int .u32 nmsize, .string sversion, c4, c5, c6, c7, c8, c9, c10, c11, c12, c13, c14, c15, c16, c17, c18, c19, c20, c21, c22, c23, c24, c25, c26, c27, c28, c29, c30, c31, c32, c33, c34, c35])) = some y4 := hf 4 _ rfl
    rw [show Tryz.prog.cellsOf 22 = 1 from by kernel_rfl] at h
    exact h
  obtain ⟨xc4, ec4, _, wc4⟩ := DataW.trod_int Tryz.underlying22 gc4
  obtain ⟨nfid, rfl, bfid⟩ := wf_lt (m := 4294967295) wc4 rfl rfl
  obtain rfl : c4 = .int .u32 nfid := by simpa using ec4
  clear gc4 ec4 wc4
  have gc5 : DataW.trod enc Tryz.prog W 0 (fun _ => true) true fu 22 [c5] = some y5 := by
    have h : DataW.trod enc Tryz.prog W 0 (fun _ => true) true fu 22 (List.take (Tryz.prog.cellsOf 22) (List.drop 5 [.int .u8 nty, .int .u16 ntag, .int .u32 nmsize, .string sversion, .int .u32 nfid, c5, c6, c7, c8, c9, c10, c11, c12, c13, c14, c15, c16, c17, c18, c19, c20, c21, c22, c23, c24, c25, c26, c27, c28, c29, c30, c31, c32, c33, c34, c35])) = some y5 := hf 5 _ rfl
    rw [show Tryz.prog.cellsOf 22 = 1 from by kernel_rfl] at h
    exact h
  obtain ⟨xc5, ec5, _, wc5⟩ := DataW.trod_int Tryz.underlying22 gc5
  obtain ⟨nafid, rfl, bafid⟩ := wf_lt (m := 4294967295) wc5 rfl rfl
  obtain rfl : c5 = .int .u32 nafid := by simpa using ec5
  clear gc5 ec5 wc5
  have gc6 : DataW.trod enc Tryz.prog W 0 (fun _ => true) true fu 22 [c6] = some y6 := by
    have h : DataW.trod enc Tryz.prog W 0 (fun _ => true) true fu 22 (List.take (Tryz.prog.cellsOf 22) (List.drop 6 [.int .u8 nty, .int .u16 ntag, .int .u32 nmsize, .string sversion, .int .u32 nfid, .int .u32 nafid, c6, c7, c8, c9, c10, c11, c12, c13, c14, c15, c16, c17, c18, c19, c20, c21, c22, c23, c24, c25, c26, c27, c28, c29, c30, c31, c32, c33, c34, c35])) = some y6 := hf 6 _ rfl
    rw [show Tryz.prog.cellsOf 22 = 1 from by kernel_rfl] at h
    exact h
  obtain ⟨xc6, ec6, _, wc6⟩ := DataW.trod_int Tryz.underlying22 gc6
  obtain ⟨nnewfid, rfl, bnewfid⟩ := wf_lt (m := 4294967295) wc6 rfl rfl
  obtain rfl : c6 = .int .u32 nnewfid := by simpa using ec6
  clear gc6 ec6 wc6
  have gc7 : DataW.trod enc Tryz.prog W 0 (fun _ => true) true fu 24 [c7] = some y7 := by
    have h : DataW.trod enc Tryz.prog W 0 (fun _ => true) true fu 24 (List.take (Tryz.prog.cellsOf 24) (List.drop 7 [.int .u8 nty, .int .u16 ntag, .int .u32 nmsize, .string sversion, .int .u32 nfid, .int .u32 nafid, .int .u32 nnewfid, c7, c8, c9, c10, c11, c12, c13, c14, c15, c16, c17, c18, c19, c20, c21, c22, c23, c24, c25, c26, c27, c28, c29, c30, c31, c32, c33, c34, c35])) = some y7 := hf 7 _ rfl
    rw [show Tryz.prog.cellsOf 24 = 1 from by kernel_rfl] at h
    exact h
  obtain ⟨xc7, ec7, _, wc7⟩ := DataW.trod_int Tryz.underlying24 gc7
  obtain ⟨noldtag, rfl, boldtag⟩ := wf_lt (m := 65535) wc7 rfl rfl
  obtain rfl : c7 = .int .u16 noldtag := by simpa using ec7
  clear gc7 ec7 wc7
  have gc8 : DataW.trod enc Tryz.prog W 0 (fun _ => true) true fu 9 [c8] = some y8 := by
    have h : DataW.trod enc Tryz.prog W 0 (fun _ => true) true fu 9 (List.take (Tryz.prog.cellsOf 9) (List.drop 8 [.int .u8 nty, .int .u16 ntag, .int .u32 nmsize, .string sversion, .int .u32 nfid, .int .u32 nafid, .int .u32 nnewfid, .int .u16 noldtag, c8, c9, c10, c11, c12, c13, c14, c15, c16, c17, c18, c19, c20, c21, c22, c23, c24, c25, c26, c27, c28, c29, c30, c31, c32, c33, c34, c35])) = some y8 := hf 8 _ rfl
    rw [show Tryz.prog.cellsOf 9 = 1 from by kernel_rfl] at h
    exact h
  obtain ⟨suname, ec8, dc8, wc8⟩ := DataW.trod_string Tryz.underlying9 gc8
  obtain rfl : c8 = .string suname := by simpa using ec8
  subst dc8
  clear gc8 ec8
  have gc9 : DataW.trod enc Tryz.prog W 0 (fun _ => true) true fu 9 [c9] = some y9 := by
    have h : DataW.trod enc Tryz.prog W 0 (fun _ => true) true fu 9 (List.take (Tryz.prog.cellsOf 9) (List.drop 9 [.int .u8 nty, .int .u16 ntag, .int .u32 nmsize, .string sversion, .int .u32 nfid, .int .u32 nafid, .int .u32 nnewfid, .int .u16 noldtag, .string suname, c9, c10, c11, c12, c13, c14, c15, c16, c17, c18, c19, c20, c21, c22, c23, c24, c25, c26, c27, c28, c29, c30, c31, c32, c33, c34, c35])) = some y9 := hf 9 _ rfl
    rw [show Tryz.prog.cellsOf 9 = 1 from by kernel_rfl] at h
    exact h
  obtain ⟨saname, ec9, dc9, wc9⟩ := DataW.trod_string Tryz.underlying9 gc9
  obtain rfl : c9 = .string saname := by simpa using ec9
  subst dc9
  clear gc9 ec9
  have gc10 : DataW.trod enc Tryz.prog W 0 (fun _ => true) true fu 9 [c10] = some y10 := by
    have h : DataW.trod enc Tryz.prog W 0 (fun _ => true) true fu 9 (List.take (Tryz.prog.cellsOf 9) (List.drop 10 [.int .u8 nty, .int .u16 ntag, .int .u32 nmsize, .string sversion, .int .u32 nfid, .int .u32 nafid, .int .u32 nnewfid, .int .u16 noldtag, .string suname, .string saname, c10, c11, c12, c13, c14, c15, c16, c17, c18, c19, c20, c21, c22, c23, c24, c25, c26, c27, c28, c29, c30, c31, c32, c33, c34, c35])) = some y10 := hf 10 _ rfl
    rw [show Tryz.prog.cellsOf 9 = 1 from by kernel_rfl] at h
    exact h
  obtain ⟨sename, ec10, dc10, wc10⟩ := DataW.trod_string Tryz.underlying9 gc10
  obtain rfl : c10 = .string sename := by simpa using ec10
  subst dc10
  clear gc10 ec10
  have gc11 : DataW.trod enc Tryz.prog W 0 (fun _ => true) true fu 9 [c11] = some y11 := by
    have h : DataW.trod enc Tryz.prog W 0 (fun _ => true) true fu 9 (List.take (Tryz.prog.cellsOf 9) (List.drop 11 [.int .u8 nty, .int .u16 ntag, .int .u32 nmsize, .string sversion, .int .u32 nfid, .int .u32 nafid, .int .u32 nnewfid, .int .u16 noldtag, .string suname, .string saname, .string sename, c11, c12, c13, c14, c15, c16, c17, c18, c19, c20, c21, c22, c23, c24, c25, c26, c27, c28, c29, c30, c31, c32, c33, c34, c35])) = some y11 := hf 11 _ rfl
    rw [show Tryz.prog.cellsOf 9 = 1 from by kernel_rfl] at h
    exact h
  obtain ⟨sname, ec11, dc11, wc11⟩ := DataW.trod_string Tryz.underlying9 gc11
  obtain rfl : c11 = .string sname := by simpa using ec11
  subst dc11
  clear gc11 ec11
  have gnames : DataW.trod enc Tryz.prog W 0 (fun _ => true) true fu 25 [c12] = some y12 := by
    have h : DataW.trod enc Tryz.prog W 0 (fun _ => true) true fu 25 (List.take (Tryz.prog.cellsOf 25) (List.drop 12 [.int .u8 nty, .int .u16 ntag, .int .u32 nmsize, .string sversion, .int .u32 nfid, .int .u32 nafid, .int .u32 nnewfid, .int .u16 noldtag, .string suname, .string saname, .string sename, .string sname, c12, c13, c14, c15, c16, c17, c18, c19, c20, c21, c22, c23, c24, c25, c26, c27, c28, c29, c30, c31, c32, c33, c34, c35])) = some y12 := hf 12 _ rfl
    rw [show Tryz.prog.cellsOf 25 = 1 from by kernel_rfl] at h
    exact h
  have gqid : DataW.trod enc Tryz.prog W 0 (fun _ => true) true fu 28 [c13, c14, c15] = some y13 := by
    have h : DataW.trod enc Tryz.prog W 0 (fun _ => true) true fu 28 (List.take (Tryz.prog.cellsOf 28) (List.drop 13 [.int .u8 nty, .int .u16 ntag, .int .u32 nmsize, .string sversion, .int .u32 nfid, .int .u32 nafid, .int .u32 nnewfid, .int .u16 noldtag, .string suname, .string saname, .string sename, .string sname, c12, c13, c14, c15, c16, c17, c18, c19, c20, c21, c22, c23, c24, c25, c26, c27, c28, c29, c30, c31, c32, c33, c34, c35])) = some y13 := hf 13 _ rfl
    rw [show Tryz.prog.cellsOf 28 = 3 from by kernel_rfl] at h
    exact h
  have gqids : DataW.trod enc Tryz.prog W 0 (fun _ => true) true fu 29 [c16] = some y14 := by
    have h : DataW.trod enc Tryz.prog W 0 (fun _ => true) true fu 29 (List.take (Tryz.prog.cellsOf 29) (List.drop 16 [.int .u8 nty, .int .u16 ntag, .int .u32 nmsize, .string sversion, .int .u32 nfid, .int .u32 nafid, .int .u32 nnewfid, .int .u16 noldtag, .string suname, .string saname, .string sename, .string sname, c12, c13, c14, c15, c16, c17, c18, c19, c20, c21, c22, c23, c24, c25, c26, c27, c28, c29, c30, c31, c32, c33, c34, c35])) = some y14 := hf 14 _ rfl
    rw [show Tryz.prog.cellsOf 29 = 1 from by kernel_rfl] at h
    exact h
  have gc17 : DataW.trod enc Tryz.prog W 0 (fun _ => true) true fu 5 [c17] = some y15 := by
    have h : DataW.trod enc Tryz.prog W 0 (fun _ => true) true fu 5 (List.take (Tryz.prog.cellsOf 5) (List.drop 17 [.int .u8 nty, .int .u16 ntag, .int .u32 nmsize, .string sversion, .int .u32 nfid, .int .u32 nafid, .int .u32 nnewfid, .int .u16 noldtag, .string suname, .string saname, .string sename, .string sname, c12, c13, c14, c15, c16, c17, c18, c19, c20, c21, c22, c23, c24, c25, c26, c27, c28, c29, c30, c31, c32, c33, c34, c35])) = some y15 := hf 15 _ rfl
    rw [show Tryz.prog.cellsOf 5 = 1 from by kernel_rfl] at h
    exact h
  obtain ⟨xc17, ec17, _, wc17⟩ := DataW.trod_int Tryz.underlying5 gc17
  obtain ⟨nmode, rfl, bmode⟩ := wf_lt (m := 255) wc17 rfl rfl
  obtain rfl : c17 = .int .u8 nmode := by simpa using ec17
  clear gc17 ec17 wc17
  have gc18 : DataW.trod enc Tryz.prog W 0 (fun _ => true) true fu 22 [c18] = some y16 := by
    have h : DataW.trod enc Tryz.prog W 0 (fun _ => true) true fu 22 (List.take (Tryz.prog.cellsOf 22) (List.drop 18 [.int .u8 nty, .int .u16 ntag, .int .u32 nmsize, .string sversion, .int .u32 nfid, .int .u32 nafid, .int .u32 nnewfid, .int .u16 noldtag, .string suname, .string saname, .string sename, .string sname, c12, c13, c14, c15, c16, .int .u8 nmode, c18, c19, c20, c21, c22, c23, c24, c25, c26, c27, c28, c29, c30, c31, c32, c33, c34, c35])) = some y16 := hf 16 _ rfl
    rw [show Tryz.prog.cellsOf 22 = 1 from by kernel_rfl] at h
    exact h
  obtain ⟨xc18, ec18, _, wc18⟩ := DataW.trod_int Tryz.underlying22 gc18
  obtain ⟨nperm, rfl, bperm⟩ := wf_lt (m := 4294967295) wc18 rfl rfl
  obtain rfl : c18 = .int .u32 nperm := by simpa using ec18
  clear gc18 ec18 wc18
  have gc19 : DataW.trod enc Tryz.prog W 0 (fun _ => true) true fu 22 [c19] = some y17 := by
    have h : DataW.trod enc Tryz.prog W 0 (fun _ => true) true fu 22 (List.take (Tryz.prog.cellsOf 22) (List.drop 19 [.int .u8 nty, .int .u16 ntag, .int .u32 nmsize, .string sversion, .int .u32 nfid, .int .u32 nafid, .int .u32 nnewfid, .int .u16 noldtag, .string suname, .string saname, .string sename, .string sname, c12, c13, c14, c15, c16, .int .u8 nmode, .int .u32 nperm, c19, c20, c21, c22, c23, c24, c25, c26, c27, c28, c29, c30, c31, c32, c33, c34, c35])) = some y17 := hf 17 _ rfl
    rw [show Tryz.prog.cellsOf 22 = 1 from by kernel_rfl] at h
    exact h
  obtain ⟨xc19, ec19, _, wc19⟩ := DataW.trod_int Tryz.underlying22 gc19
  obtain ⟨niounit, rfl, biounit⟩ := wf_lt (m := 4294967295) wc19 rfl rfl
  obtain rfl : c19 = .int .u32 niounit := by simpa using ec19
  clear gc19 ec19 wc19
  have gc20 : DataW.trod enc Tryz.prog W 0 (fun _ => true) true fu 26 [c20] = some y18 := by
    have h : DataW.trod enc Tryz.prog W 0 (fun _ => true) true fu 26 (List.take (Tryz.prog.cellsOf 26) (List.drop 20 [.int .u8 nty, .int .u16 ntag, .int .u32 nmsize, .string sversion, .int .u32 nfid, .int .u32 nafid, .int .u32 nnewfid, .int .u16 noldtag, .string suname, .string saname, .string sename, .string sname, c12, c13, c14, c15, c16, .int .u8 nmode, .int .u32 nperm, .int .u32 niounit, c20, c21, c22, c23, c24, c25, c26, c27, c28, c29, c30, c31, c32, c33, c34, c35])) = some y18 := hf 18 _ rfl
    rw [show Tryz.prog.cellsOf 26 = 1 from by kernel_rfl] at h
    exact h
  obtain ⟨xc20, ec20, _, wc20⟩ := DataW.trod_int Tryz.underlying26 gc20
  obtain ⟨noffset, rfl, boffset⟩ := wf_lt (m := 18446744073709551615) wc20 rfl rfl
  obtain rfl : c20 = .int .u64 noffset := by simpa using ec20
  clear gc20 ec20 wc20
  have gc21 : DataW.trod enc Tryz.prog W 0 (fun _ => true) true fu 22 [c21] = some y19 := by
    have h : DataW.trod enc Tryz.prog W 0 (fun _ => true) true fu 22 (List.take (Tryz.prog.cellsOf 22) (List.drop 21 [.int .u8 nty, .int .u16 ntag, .int .u32 nmsize, .string sversion, .int .u32 nfid, .int .u32 nafid, .int .u32 nnewfid, .int .u16 noldtag, .string suname, .string saname, .string sename, .string sname, c12, c13, c14, c15, c16, .int .u8 nmode, .int .u32 nperm, .int .u32 niounit, .int .u64 noffset, c21, c22, c23, c24, c25, c26, c27, c28, c29, c30, c31, c32, c33, c34, c35])) = some y19 := hf 19 _ rfl
    rw [show Tryz.prog.cellsOf 22 = 1 from by kernel_rfl] at h
    exact h
  obtain ⟨xc21, ec21, _, wc21⟩ := DataW.trod_int Tryz.underlying22 gc21
  obtain ⟨ncount, rfl, bcount⟩ := wf_lt (m := 4294967295) wc21 rfl rfl
  obtain rfl : c21 = .int .u32 ncount := by simpa using ec21
  clear gc21 ec21 wc21
  have gc22 : DataW.trod enc Tryz.prog W 0 (fun _ => true) true fu 9 [c22] = some y20 := by
    have h : DataW.trod enc Tryz.prog W 0 (fun _ => true) true fu 9 (List.take (Tryz.prog.cellsOf 9) (List.drop 22 [.int .u8 nty, .int .u16 ntag, .int .u32 nmsize, .string sversion, .int .u32 nfid, .int .u32 nafid, .int .u32 nnewfid, .int .u16 noldtag, .string suname, .string saname, .string sename, .string sname, c12, c13, c14, c15, c16, .int .u8 nmode, .int .u32 nperm, .int .u32 niounit, .int .u64 noffset, .int .u32 ncount, c22, c23, c24, c25, c26, c27, c28, c29, c30, c31, c32, c33, c34, c35])) = some y20 := hf 20 _ rfl
    rw [show Tryz.prog.cellsOf 9 = 1 from by kernel_rfl] at h
    exact h
  obtain ⟨sdata, ec22, dc22, wc22⟩ := DataW.trod_string Tryz.underlying9 gc22
  obtain rfl : c22 = .string sdata := by simpa using ec22
  subst dc22
  clear gc22 ec22
  have gstat : DataW.trod enc Tryz.prog W 0 (fun _ => true) true fu 31 [c23, c24, c25, c26, c27, c28, c29, c30, c31, c32, c33, c34, c35] = some y21 := by
    have h : DataW.trod enc Tryz.prog W 0 (fun _ => true) true fu 31 (List.take (Tryz.prog.cellsOf 31) (List.drop 23 [.int .u8 nty, .int .u16 ntag, .int .u32 nmsize, .string sversion, .int .u32 nfid, .int .u32 nafid, .int .u32 nnewfid, .int .u16 noldtag, .string suname, .string saname, .string sename, .string sname, c12, c13, c14, c15, c16, .int .u8 nmode, .int .u32 nperm, .int .u32 niounit, .int .u64 noffset, .int .u32 ncount, .string sdata, c23, c24, c25, c26, c27, c28, c29, c30, c31, c32, c33, c34, c35])) = some y21 := hf 21 _ rfl
    rw [show Tryz.prog.cellsOf 31 = 13 from by kernel_rfl] at h
    exact h
  clear hf
  obtain ⟨lnames, hnames, wnames⟩ := trod_strs gnames
  obtain ⟨qq, hq, kq⟩ := trod_qid gqid
  obtain ⟨lqids, hqids, kqids, wqids⟩ := trod_qids gqids
  obtain ⟨st, hst, kst, wst⟩ := trod_stat gstat
  simp only [Qd.cells, List.cons.injEq, and_true] at hq
  obtain ⟨rfl, rfl, rfl⟩ := hq
  simp only [St.cells, List.cons.injEq, and_true] at hst
  obtain ⟨rfl, rfl, rfl, rfl, rfl, rfl, rfl, rfl, rfl, rfl, rfl, rfl, rfl⟩ := hst
  refine ⟨⟨nty, ntag, nmsize, sversion, nfid, nafid, nnewfid, noldtag, suname, saname, sename, sname, lnames, qq, lqids, nmode, nperm, niounit, noffset, ncount, sdata, st⟩, c12, c16, rfl, ⟨by show nty < _; omega, by show ntag < _; omega, by show nmsize < _; omega, by show nfid < _; omega, by show nafid < _; omega, by show nnewfid < _; omega, by show noldtag < _; omega, kq, kqids, by show nmode < _; omega, by show nperm < _; omega, by show niounit < _; omega, by show noffset < _; omega, by show ncount < _; omega, kst⟩, hnames, hqids, fun hw => ?_⟩
  have wN := wnames fun k hk => hw k (by simp [DataW.weights, DataW.weightsEach, Tryz.underlying33, hk])
  have wQ := wqids fun k hk => hw k (by simp [DataW.weights, DataW.weightsEach, Tryz.underlying33, hk])
  have wS := wst fun k hk => hw k (by simp [DataW.weights, DataW.weightsEach, Tryz.underlying33, hk])
  have hR : reachBytes ≤ 140737488355328 := by decide
  exact ⟨(by have := hw sversion.data.toList.length (by simp [DataW.weights, DataW.weightsEach, Tryz.underlying33]); rw [Array.length_toList] at this; exact Nat.le_trans this hR), (by have := hw suname.data.toList.length (by simp [DataW.weights, DataW.weightsEach, Tryz.underlying33]); rw [Array.length_toList] at this; exact Nat.le_trans this hR), (by have := hw saname.data.toList.length (by simp [DataW.weights, DataW.weightsEach, Tryz.underlying33]); rw [Array.length_toList] at this; exact Nat.le_trans this hR), (by have := hw sename.data.toList.length (by simp [DataW.weights, DataW.weightsEach, Tryz.underlying33]); rw [Array.length_toList] at this; exact Nat.le_trans this hR), (by have := hw sname.data.toList.length (by simp [DataW.weights, DataW.weightsEach, Tryz.underlying33]); rw [Array.length_toList] at this; exact Nat.le_trans this hR), (by have := hw sdata.data.toList.length (by simp [DataW.weights, DataW.weightsEach, Tryz.underlying33]); rw [Array.length_toList] at this; exact Nat.le_trans this hR), ⟨Nat.le_trans wS.1 hR, Nat.le_trans wS.2.1 hR, Nat.le_trans wS.2.2.1 hR, Nat.le_trans wS.2.2.2 hR⟩, fun s hs => Nat.le_trans (wN.2 s hs) hR, Nat.le_trans wN.1 hR, Nat.le_trans wQ hR⟩
set_option maxRecDepth 100000 in
/-- an argument that is a message -/
theorem arg_msg {H : Type} {enc : TypeId × Value → H} {W : World} {base : Nat} {v : Value} {d : DataW H} {ps : List MemPlace} (hval : Value.okWide Tryz.prog W .any base 33 v)
    (h : DataW.Trod enc Tryz.prog W 0 (fun _ => true) true 33 v d ps) : ∃ (m : Msg) (vn vq : Value), v = .agg (m.cells vn vq).toArray ∧ m.Ok ∧ SlAt W (fun _ => True) vn (m.names.map Value.string) ∧ RecsAt Qd.cells 3 W (fun _ => True) vq m.qids ∧ ((∀ k ∈ d.weights Tryz.prog 33, k ≤ reachBytes) → m.Reach) := by
  obtain ⟨cs, rfl, hsz⟩ := okWide_struct Tryz.underlying33 hval
  obtain ⟨fuel, hf⟩ := h
  obtain ⟨m, vn, vq, hs, hk, hn, hq, hw⟩ := trod_msg hf
  refine ⟨m, vn, vq, ?_, hk, hn, hq, hw⟩
  simp only [Value.cells] at hs
  show Value.agg cs = .agg (m.cells vn vq).toArray
  rw [← hs]
end Go.Proofs.YtklpopmjpgdjnaaGreatDoor
