/- A slice of stats. -/
import Derived.Test.YtjhhknmdnkkknaaPStat
import Derived.Test.YtjhhknmdnkkknaaOwn
import Derived.Test.YtjhhknmdnkkknaaRegionHold
namespace Go.Proofs.Ytjhhknmdnkkknaa
open Go.RowKit

/-- a slice of stats that reads as l; its block meets P -/
def StsAt (w : World) (P : Nat → Prop) (v : Value) (l : List St) : Prop :=
  (l = [] ∧ ∃ a c, v = .slice a 0 c) ∨ ∃ g off cap, v = .slice (some ⟨g, off, none⟩) l.length cap ∧ P g ∧ g < w.heap.size ∧ l.length ≤ cap ∧
    ∀ j s, l[j]? = some s → ∀ i u, s.cells[i]? = some u → w.cell? ⟨g, off + j * 13 + i, none⟩ = some u
theorem StsAt.mod {w w' : World} {P S : Nat → Prop} {v : Value} {l : List St} (h : StsAt w P v l) (hm : Mod S w w') (hp : ∀ g, P g → g < w.heap.size → ¬ S g) : StsAt w' P v l := by
  rcases h with h | ⟨g, off, cap, h1, h2, h3, h4, h5⟩
  · exact .inl h
  · exact .inr ⟨g, off, cap, h1, h2, Nat.lt_of_lt_of_le h3 hm.size, h4, fun j s hj i u hu => (World.cell?_of_block (hm.block g h3 (hp g h2 h3))).trans (h5 j s hj i u hu)⟩
theorem StsAt.imp {w : World} {P Q : Nat → Prop} {v : Value} {l : List St} (h : StsAt w P v l) (hp : ∀ g, P g → Q g) : StsAt w Q v l := by
  rcases h with h | ⟨g, off, cap, h1, h2, h3⟩
  · exact .inl h
  · exact .inr ⟨g, off, cap, h1, hp g h2, h3⟩
theorem StsAt.form {w : World} {P : Nat → Prop} {v : Value} {l : List St} (h : StsAt w P v l) : ∃ a cap, v = .slice a l.length cap ∧ l.length ≤ cap ∧
    ∀ j s, l[j]? = some s → ∃ g off, a = some ⟨g, off, none⟩ ∧ P g ∧ g < w.heap.size ∧ ∀ i u, s.cells[i]? = some u → w.cell? ⟨g, off + j * 13 + i, none⟩ = some u := by
  rcases h with ⟨rfl, a, c, rfl⟩ | ⟨g, off, cap, h1, h2, h3, h4, h5⟩
  · exact ⟨a, c, rfl, Nat.zero_le _, fun j u hj => by simp at hj⟩
  · exact ⟨_, cap, h1, h4, fun j s hj => ⟨g, off, rfl, h2, h3, h5 j s hj⟩⟩

theorem flat_get (L : List St) : ∀ j s, L[j]? = some s → ∀ i, i < 13 → (L.flatMap St.cells)[j * 13 + i]? = s.cells[i]? := by
  induction L with
  | nil => intro j s h; cases h
  | cons a L ih =>
    intro j s h i hi
    rw [List.flatMap_cons]
    cases j with
    | zero =>
      simp at h
      subst h
      rw [Nat.zero_mul, Nat.zero_add, List.getElem?_append_left (by exact hi)]
    | succ j =>
      rw [List.getElem?_append_right (by show 13 ≤ _; omega), ← ih j s h i hi]
      congr 1
      show (j + 1) * 13 + i - 13 = _
      omega
theorem stsFlat (W : World) (P : Nat → Prop) (b : Nat) (L : List St) (n : Nat) (e : TypeId) (h : W.heap[b]? = some (.cells (L.flatMap St.cells).toArray e (0, 0))) (hn : L.length ≤ n) (hP : P b) : StsAt W P (.slice (some ⟨b, 0, none⟩) L.length n) L := by
  refine Or.inr ⟨b, 0, n, rfl, hP, lt_of h, hn, fun j s hj i u hu => ?_⟩
  have hi : i < 13 := (List.getElem?_eq_some_iff.1 hu).1
  rw [cell_of h, Nat.zero_add, List.getElem?_toArray, flat_get L j s hj i hi]
  exact hu
def sumS (l : List St) : Nat := (l.map fun s => s.n.size + s.u.size + s.g.size + s.m.size).sum
theorem sumS_mem {l : List St} {s : St} (h : s ∈ l) : s.n.size + s.u.size + s.g.size + s.m.size ≤ sumS l := by
  induction l with
  | nil => cases h
  | cons a l ih =>
    simp only [sumS, List.map_cons, List.sum_cons]
    rcases List.mem_cons.1 h with rfl | h
    · omega
    · have := ih h
      unfold sumS at this
      omega
def longS (l : List St) : Bool := decide (60 < l.length ∨ 262144 < sumS l)
theorem sumS_take (l : List St) (k : Nat) (h : k < l.length) : sumS (l.take (k + 1)) = sumS (l.take k) + ((l[k]).n.size + (l[k]).u.size + (l[k]).g.size + (l[k]).m.size) := by
  rw [List.take_succ_eq_append_getElem h]
  simp only [sumS, List.map_append, List.sum_append, List.map_cons, List.map_nil, List.sum_cons, List.sum_nil, Nat.add_zero]
theorem sumS_le (l : List St) (B : Nat) (h : ∀ s ∈ l, s.n.size ≤ B ∧ s.u.size ≤ B ∧ s.g.size ≤ B ∧ s.m.size ≤ B) : sumS l ≤ l.length * (4 * B) := by
  induction l with
  | nil => simp [sumS]
  | cons a l ih =>
    have h1 := ih fun s hs => h s (List.mem_cons_of_mem _ hs)
    have h2 := h a (List.mem_cons_self ..)
    simp only [sumS, List.map_cons, List.sum_cons, List.length_cons] at *
    rw [Nat.add_mul]
    omega

set_option maxRecDepth 100000 in
set_option maxHeartbeats 2000000 in
theorem long_any (v : Value) (l : List St) (w : World) (h : StsAt w (fun _ => True) v l) (hlen : l.length ≤ 140737488355328) (hl : ∀ s ∈ l, s.n.size ≤ 140737488355328 ∧ s.u.size ≤ 140737488355328 ∧ s.g.size ≤ 140737488355328 ∧ s.m.size ≤ 140737488355328) :
    Calls Try.prog 8 #[v] w fun e w' => e = .returned (.bool (longS l)) ∧ Mod (fun _ => False) w w' := by
  obtain ⟨a, cap, rfl, hcap, hx⟩ := h.form
  go_enter Try.func8, Try.ntmps8
  go_wp2
  go_loopw [3, 4] (fun x i wr => ∃ (k : Nat) (N : Int), k ≤ l.length ∧ x = .int .i64 N ∧ i = .int .i64 k ∧ (l.length ≤ 60 → N = (sumS (l.take k) : Int)) ∧ Hid (Mod (fun _ => False) w wr)) (fun _ i _ => l.length - (intOf i).toNat)
  case atStart => exact ⟨0, 0, by omega, rfl, rfl, fun _ => rfl, Mod.refl _ _⟩
  case round =>
    obtain ⟨k, N, hk, rfl, rfl, hN, HM⟩ := hrel
    by_cases hlt : k < l.length
    · obtain ⟨g, off, rfl, _, hg, hc⟩ := hx k l[k] (List.getElem?_eq_getElem hlt)
      have t1 : decide ((k : Int) < (l.length : Int)) = true := by simp; omega
      have hc' : ∀ i u, (l[k]).cells[i]? = some u → wr.cell? ⟨g, off + k * 13 + i, none⟩ = some u := fun i u hu => (World.cell?_of_block (a := ⟨g, off + k * 13 + i, none⟩) (HM.out.block g hg (fun x => x))).trans (hc i u hu)
      have c9 := hc' 9 (.string l[k].n) rfl
      have c10 := hc' 10 (.string l[k].u) rfl
      have c11 := hc' 11 (.string l[k].g) rfl
      have c12 := hc' 12 (.string l[k].m) rfl
      have i1 : (0 : Int) ≤ (k : Int) := by omega
      have i2 : (k : Int) < (l.length : Int) := by omega
      have i3 : (l.length : Int) ≤ (cap : Int) := by omega
      go_wp2
      go_quiet (fail)
      go_wp2
      go_roundw
      case rel =>
        refine ⟨k + 1, _, hlt, rfl, by go_num, fun h60 => ?_, Lib.hid (by first | exact HM.out | exact HM.out.drewN _ | exact HM.out.drew)⟩
        have hN := hN h60
        have hB := sumS_le (l.take k) 140737488355328 (fun s hs => hl s (List.mem_of_mem_take hs))
        rw [List.length_take] at hB
        rw [sumS_take l k hlt]
        obtain ⟨b1, b2, b3, b4⟩ := hl l[k] (List.getElem_mem hlt)
        generalize (l[k]).n.size = x1 at *
        generalize (l[k]).u.size = x2 at *
        generalize (l[k]).g.size = x3 at *
        generalize (l[k]).m.size = x4 at *
        generalize sumS (List.take k l) = sk at *
        have hB2 : sk ≤ 60 * (4 * 140737488355328) := Nat.le_trans hB (Nat.mul_le_mul (by omega) (Nat.le_refl _))
        clear hB
        simp only [wrap64]
        omega
      case measure => simp [intOf]; omega
    · obtain rfl : k = l.length := by omega
      have t1 : decide ((l.length : Int) < (l.length : Int)) = false := by simp
      rw [List.take_length] at hN
      have hv : Hid (longS l = decide (60 < l.length ∨ 262144 < sumS l)) := rfl
      by_cases h60 : l.length ≤ 60
      · have t2 : decide (60 < (l.length : Int)) = false := by simp; omega
        have hN := hN h60
        subst hN
        clear hN
        have hv2 : Hid (longS l = decide (262144 < (sumS l : Int))) := by rw [hv.out]; show _ = _; congr 1; simp; omega
        generalize (sumS l : Int) = N at *
        clear hv
        go_wp2
        go_ret
        exact ⟨by rw [hv2.out]; rfl, HM.out⟩
      · have t2 : decide (60 < (l.length : Int)) = true := by simp; omega
        have hv2 : Hid (longS l = true) := hv.out.trans (decide_eq_true (Or.inl (by omega)))
        clear hv hN
        go_wp2
        go_ret
        exact ⟨by rw [hv2.out]; rfl, HM.out⟩
end Go.Proofs.Ytjhhknmdnkkknaa
