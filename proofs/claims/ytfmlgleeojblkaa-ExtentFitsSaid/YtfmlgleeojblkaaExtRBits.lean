/- The document's bits where they are written: set, Turn, Take, Copy; and the length of bits that are not there. -/
import Derived.Test.YtfmlgleeojblkaaBitsRef
namespace Go.Proofs.Ytfmlgleeojblkaa
open Go.RowKit

theorem cell_set {w : World} {g i j : Nat} {v u : Value} (h : w.cell? ⟨g, i, none⟩ = some u) : (w.setCell ⟨g, i, none⟩ v).cell? ⟨g, j, none⟩ = if j = i then some v else w.cell? ⟨g, j, none⟩ := by
  cases hg : w.heap[g]? with
  | none => simp [World.cell?, hg] at h
  | some o =>
    cases o
    case cells cs e f =>
      simp [World.cell?, hg] at h
      have hi : i < cs.size := (Array.getElem?_eq_some_iff.1 h).1
      simp only [World.cell?, World.setCell, Array.getElem?_modify, hg, if_true, Option.map_some, Array.getElem?_setIfInBounds, Option.isSome_none, Bool.false_eq_true, if_false]
      by_cases e : i = j
      · subst e; simp [hi]
      · rw [if_neg e, if_neg (fun x => e x.symm)]
    all_goals simp [World.cell?, hg] at h
theorem frozen_set {w : World} {g i j : Nat} {v : Value} : (w.setCell ⟨g, i, none⟩ v).frozen? ⟨g, j, none⟩ = w.frozen? ⟨g, j, none⟩ := by
  cases hg : w.heap[g]? with
  | none => simp [World.frozen?, World.setCell, Array.getElem?_modify, hg]
  | some o => cases o <;> simp [World.frozen?, World.setCell, Array.getElem?_modify, hg]

/-- the document's bits, that may be written -/
structure RefW (w : World) (r g n cap : Nat) (T : Nat → Bool) : Prop where
  at_ : RefAt w r g n cap T
  ne : r ≠ g
  fr : ∀ j, j < n → w.frozen? ⟨g, j, none⟩ = false
theorem RefW.mod {w w' : World} {r g n cap : Nat} {T : Nat → Bool} {S : Nat → Prop} (h : RefW w r g n cap T) (hm : Mod S w w') (h1 : ¬ S r) (h2 : ¬ S g) : RefW w' r g n cap T :=
  ⟨h.at_.mod hm h1 h2, h.ne, fun j hj => (World.frozen?_of_block (a := ⟨g, j, none⟩) (hm.block g h.at_.hg h2)).trans (h.fr j hj)⟩
theorem RefW.set {w : World} {r g n cap : Nat} {T : Nat → Bool} (h : RefW w r g n cap T) (i : Nat) (hi : i < n) (v : Bool) : RefW (w.setCell ⟨g, i, none⟩ (.bool v)) r g n cap (put T i v) := by
  have hm := Mod.set1 w g i (.bool v)
  refine ⟨⟨(hm.block r (lt_of h.at_.hb) h.ne).trans h.at_.hb, Nat.lt_of_lt_of_le h.at_.hg hm.size, fun j hj => ?_, h.at_.n1, h.at_.n2⟩, h.ne, fun j hj => by rw [frozen_set]; exact h.fr j hj⟩
  rw [cell_set (h.at_.hc i hi)]
  unfold put
  split
  · rfl
  · exact h.at_.hc j hj

set_option maxHeartbeats 1000000 in
theorem rset_any (r g n cap : Nat) (T : Nat → Bool) (at_ k : Nat) (v : Bool) (w : World) (h : RefW w r g n cap T) (hi : at_ + k ≤ n) :
    Calls Try.prog 56 #[.pointer (some ⟨r, 0, none⟩), .int .i64 at_, .int .i64 k, .bool v] w fun e w' => e = .returned (.tuple #[]) ∧ RefW w' r g n cap (putN T at_ k v) ∧ Mod (· = g) w w' := by
  have hn2 := h.at_.n2
  have H := Lib.hid h; clear h
  go_enter Try.func56, Try.ntmps56
  go_wp2
  go_loopw [8] (fun i W => ∃ j : Nat, j ≤ k ∧ i = .int .i64 (at_ + j : Nat) ∧ RefW W r g n cap (putN T at_ j v) ∧ Mod (· = g) w W) (fun i _ => at_ + k - (intOf i).toNat)
  case atStart => exact ⟨0, Nat.zero_le _, rfl, by rw [putN_zero]; exact H.out, Mod.refl _ _⟩
  case round =>
    obtain ⟨j, hj, rfl, hB, hM⟩ := hrel
    by_cases hlt : j < k
    · have t1 : decide (((at_ + j : Nat) : Int) < (at_ : Int) + k) = true := by simp; omega
      have c0 : wr.cell? ⟨r, 0, none⟩ = some (.slice (some ⟨g, 0, none⟩) n cap) := (cell_of hB.at_.hb 0).trans rfl
      have c1 := hB.at_.hc (at_ + j) (by omega)
      have f1 := hB.fr (at_ + j) (by omega)
      have h2 : Hid (RefW (wr.setCell ⟨g, at_ + j, none⟩ (.bool v)) r g n cap (putN T at_ (j + 1) v)) := by
        rw [← putN_succ]
        exact hB.set (at_ + j) (by omega) v
      have h3 : Hid (Mod (· = g) w (wr.setCell ⟨g, at_ + j, none⟩ (.bool v))) := hM.setCell (p := ⟨g, at_ + j, none⟩) (Or.inl rfl) _
      clear hB hM
      go_wp2
      go_roundw
      case rel => exact ⟨j + 1, hlt, by go_num, h2.out, h3.out⟩
      case measure => simp [intOf]; omega
    · have t1 : decide (((at_ + j : Nat) : Int) < (at_ : Int) + k) = false := by simp; omega
      go_wp2
      go_end0
      obtain rfl : j = k := by omega
      exact ⟨rfl, hB, hM⟩

set_option maxHeartbeats 1000000 in
theorem rin_any (r g n cap : Nat) (T : Nat → Bool) (at_ k : Int) (w : World) (h : RefAt w r g n cap T)
    (hat : -9223372036854775808 ≤ at_ ∧ at_ ≤ 9223372036854775807) (hk : -9223372036854775808 ≤ k ∧ k ≤ 9223372036854775807) :
    Calls Try.prog 54 #[.pointer (some ⟨r, 0, none⟩), .int .i64 at_, .int .i64 k] w fun e w' => e = .returned (.bool (fitsT n at_ k)) ∧ w' = w := by
  have c0 : w.cell? ⟨r, 0, none⟩ = some (.slice (some ⟨g, 0, none⟩) n cap) := (cell_of h.hb 0).trans rfl
  have hn2 := h.n2
  have hn1 := h.n1
  clear h
  by_cases h1 : 0 ≤ k
  · have t1 : decide (0 ≤ k) = true := by simp [h1]
    by_cases h2 : 0 ≤ at_
    · have t2 : decide (0 ≤ at_) = true := by simp [h2]
      by_cases h3 : at_ ≤ (n : Int) - k
      · have t3 : decide (at_ ≤ (n : Int) - k) = true := by simp [h3]
        have t4 : decide (k ≤ (n : Int)) = true := by simp; omega
        rw [show fitsT n at_ k = true from by simp [fitsT]; omega]
        go_enter Try.func54, Try.ntmps54
        go_wp2
        go_ret
        exact ⟨rfl, rfl⟩
      · have t3 : decide (at_ ≤ (n : Int) - k) = false := by simp; omega
        rw [show fitsT n at_ k = false from by simp [fitsT]; omega]
        go_enter Try.func54, Try.ntmps54
        go_wp2
        go_ret
        exact ⟨rfl, rfl⟩
    · have t2 : decide (0 ≤ at_) = false := by simp; omega
      rw [show fitsT n at_ k = false from by simp [fitsT]; omega]
      go_enter Try.func54, Try.ntmps54
      go_wp2
      go_ret
      exact ⟨rfl, rfl⟩
  · have t1 : decide (0 ≤ k) = false := by simp; omega
    rw [show fitsT n at_ k = false from by simp [fitsT]; omega]
    go_enter Try.func54, Try.ntmps54
    go_wp2
    go_ret
    exact ⟨rfl, rfl⟩

/-- Turn to free -/
theorem rturn_any (r g n cap : Nat) (T : Nat → Bool) (at_ k : Int) (w : World) (h : RefW w r g n cap T)
    (hat : -9223372036854775808 ≤ at_ ∧ at_ ≤ 9223372036854775807) (hk : -9223372036854775808 ≤ k ∧ k ≤ 9223372036854775807) :
    Calls Try.prog 37 #[.pointer (some ⟨r, 0, none⟩), .int .i64 at_, .int .i64 k, .bool false] w fun e w' =>
      e = .returned (.int .i64 (turnE n T at_ k true)) ∧ RefW w' r g n cap (turnT n T at_ k true) ∧ Mod (· = g) w w' := by
  have hin := rin_any r g n cap T at_ k w h.at_ hat hk
  go_enter Try.func37, Try.ntmps37
  by_cases hf : fitsT n at_ k = true
  · rw [hf] at hin
    obtain ⟨e1, e2, e3⟩ := fits_nat hf
    generalize at_.toNat = a at *
    generalize k.toNat = c at *
    subst e1
    subst e2
    have har := rare_any r g n cap T a c true w h.at_ e3
    by_cases hs : areT T a c true = true
    · have q1 : turnE n T a c true = 0 := by simp [turnE, hf, hs]
      have q2 : turnT n T a c true = putN T a c false := by simp [turnT, q1]
      rw [q1, q2]
      rw [hs] at har
      have hst := rset_any r g n cap T a c false w h e3
      clear h q1 q2
      go_wp2_with fail
      refine hin.mono ?_
      rintro e w1 ⟨rfl, rfl⟩
      go_wp2_with fail
      refine har.mono ?_
      rintro e w1 ⟨rfl, rfl⟩
      go_wp2_with fail
      refine hst.mono ?_
      rintro e w2 ⟨rfl, h2, m2⟩
      have H2 := Lib.hid h2; clear h2
      go_wp2
      go_ret
      exact ⟨rfl, H2.out, m2⟩
    · have hs1 : areT T a c true = false := Bool.eq_false_iff.2 hs
      have q1 : turnE n T a c true = 3 := by simp [turnE, hf, hs1]
      have q2 : turnT n T a c true = T := by simp [turnT, q1]
      rw [q1, q2]
      rw [hs1] at har
      have H := Lib.hid h; clear h q1 q2
      go_wp2_with fail
      refine hin.mono ?_
      rintro e w1 ⟨rfl, rfl⟩
      go_wp2_with fail
      refine har.mono ?_
      rintro e w1 ⟨rfl, rfl⟩
      go_wp2
      go_ret
      exact ⟨rfl, H.out, Mod.refl _ _⟩
  · have hf1 : fitsT n at_ k = false := Bool.eq_false_iff.2 hf
    have q1 : turnE n T at_ k true = 2 := by simp [turnE, hf1]
    have q2 : turnT n T at_ k true = T := by simp [turnT, q1]
    rw [q1, q2]
    rw [hf1] at hin
    have H := Lib.hid h; clear h q1 q2
    go_wp2_with fail
    refine hin.mono ?_
    rintro e w1 ⟨rfl, rfl⟩
    go_wp2
    go_ret
    exact ⟨rfl, H.out, Mod.refl _ _⟩

theorem wrap_small (y : Nat) (h : y ≤ 16) : wrap64 (y : Int) = y := by unfold wrap64; omega
theorem rtake_any (r g n cap : Nat) (T : Nat → Bool) (k : Nat) (hk4 : k ≤ 4) (w : World) (h : RefW w r g n cap T) :
    Calls Try.prog 38 #[.pointer (some ⟨r, 0, none⟩), .int .i64 k] w fun e w' =>
      e = .returned (.tuple #[.int .i64 (takeR n T k).1, .int .i64 (takeR n T k).2.1]) ∧ RefW w' r g n cap (takeR n T k).2.2 ∧ Mod (· = g) w w' := by
  have hfs := rfind_any r g n cap T k hk4 w h.at_
  unfold findT at hfs
  have hn2 := h.at_.n2
  have t1 : decide ((k : Int) < 0) = false := by simp
  have t2 : decide (4 < (k : Int)) = false := by simp; omega
  have hp := pow_le16 hk4
  have hsw : wrap64 (2 ^ k) = ((2 ^ k : Nat) : Int) := by
    have : ((2 : Int) ^ k) = ((2 ^ k : Nat) : Int) := by simp
    rw [this]
    exact wrap_small _ (by omega)
  have H := Lib.hid h; clear h
  cases hf : (spots n (2 ^ k)).find? (isFree T n (2 ^ k)) with
  | none =>
    rw [hf] at hfs
    rw [takeR_none n T k hk4 hf]
    go_enter Try.func38, Try.ntmps38
    go_wp2_with fail
    refine hfs.mono ?_
    rintro e w1 ⟨rfl, rfl⟩
    go_wp2
    go_ret2
    exact ⟨rfl, H.out, Mod.refl _ _⟩
  | some x =>
    rw [hf] at hfs
    rw [takeR_some n T k hk4 x hf]
    obtain ⟨y, hx⟩ := x
    have hst := rset_any r g n cap T y (2 ^ k) true w H.out hx
    simp only at hfs hst ⊢
    clear hf
    go_enter Try.func38, Try.ntmps38
    go_wp2_with fail
    refine hfs.mono ?_
    rintro e w1 ⟨rfl, rfl⟩
    have t3 : decide ((y : Int) < 0) = false := by simp
    go_wp2_with fail
    have hst2 := hst
    rw [show ((2 ^ k : Nat) : Int) = 2 ^ k from by simp] at hst2
    refine hst2.mono ?_
    rintro e w2 ⟨rfl, h2, m2⟩
    have H2 := Lib.hid h2; clear h2
    go_wp2
    go_ret2
    exact ⟨rfl, H2.out, m2⟩

def bools (T : Nat → Bool) (k : Nat) : List Value := (List.range k).map fun j => Value.bool (T j)
theorem bools_length (T : Nat → Bool) (k : Nat) : (bools T k).length = k := by simp [bools]
theorem bools_get (T : Nat → Bool) (k j : Nat) (h : j < k) : (bools T k)[j]? = some (.bool (T j)) := by simp [bools, List.getElem?_range h]
theorem add_zero_plain (g j : Nat) : (⟨g, 0, none⟩ : Addr).add j = ⟨g, j, none⟩ := by
  unfold Addr.add
  split
  · rename_i h; simp_all
  · simp
theorem own_some {w : World} {base n : Nat} {v : Value} {xs : List Value} (hn : 1 ≤ n) (h : OwnA w base 1 v (0 + n) ([] ++ xs)) : ∃ g cap, v = .slice (some ⟨g, 0, none⟩) n cap ∧ base ≤ g ∧ g < w.heap.size ∧ n ≤ cap ∧
    (∀ j, j < cap * 1 → (w.cell? ⟨g, j, none⟩).isSome = true) ∧ (∀ j, j < cap * 1 → w.frozen? ⟨g, j, none⟩ = false) ∧ (∀ j u, xs[j]? = some u → w.cell? ⟨g, j, none⟩ = some u) := by
  rw [Nat.zero_add, List.nil_append] at h
  rcases h.2 with ⟨_, h0⟩ | ⟨g, cap, hr⟩
  · omega
  · exact ⟨g, cap, hr⟩
theorem rcopy_any (r g n cap : Nat) (T : Nat → Bool) (w : World) (h : RefW w r g n cap T) :
    Calls Try.prog 21 #[.pointer (some ⟨r, 0, none⟩)] w fun e w' =>
      ∃ r' g' cap', e = .returned (.pointer (some ⟨r', 0, none⟩)) ∧ RefW w' r' g' n cap' T ∧ w.heap.size ≤ r' ∧ w.heap.size ≤ g' ∧ Mod (fun _ => False) w w' := by
  have hn1 := h.at_.n1
  have hn2 := h.at_.n2
  have c0 : w.cell? ⟨r, 0, none⟩ = some (.slice (some ⟨g, 0, none⟩) n cap) := (cell_of h.at_.hb 0).trans rfl
  obtain ⟨W0, hW0⟩ : ∃ W0, w.alloc (.cells #[] 4) = W0 := ⟨_, rfl⟩
  have hm0 : Mod (fun _ => False) w W0 := by subst hW0; exact (Mod.refl _ w).alloc _
  have hs0 : W0.heap.size = w.heap.size + 1 := by subst hW0; simp
  have h0 := h.mod hm0 (fun x => x) (fun x => x)
  have c1 : W0.cell? ⟨r, 0, none⟩ = some (.slice (some ⟨g, 0, none⟩) n cap) := (cell_of h0.at_.hb 0).trans rfl
  have hown : OwnA W0 w.heap.size 1 (.slice (some ⟨w.heap.size, 0, none⟩) 0 0) 0 [] := ⟨rfl, .inr ⟨w.heap.size, 0, rfl, Nat.le_refl _, by omega, Nat.le_refl _, fun j hj => by omega, fun j hj => by omega, fun j u hj => by cases hj⟩⟩
  have hsrc : Src Try.prog 1 44 (.slice (some ⟨g, 0, none⟩) n cap) n (bools T n) W0 := Src.ofSlice W0 Try.underlying44 _ _ _ _ (by rw [bools_length, Nat.mul_one]) (fun j u hj => by
    have hjn : j < n := by have := (List.getElem?_eq_some_iff.1 hj).1; rwa [bools_length] at this
    rw [bools_get T n j hjn] at hj
    cases hj
    rw [add_zero_plain]
    exact h0.at_.hc j hjn) (fun u hu => by
    obtain ⟨_, _, rfl⟩ := List.mem_map.1 hu
    rfl)
  have A1 := Lib.hid hown
  have A2 := Lib.hid hsrc
  have HM0 := Lib.hid hm0
  clear hown hsrc hm0 h0 h c0
  have A3 : Hid ((0 + n) * 1 ≤ 140737488355328) := by show _ ≤ _; omega
  have A4 : Hid (0 + n ≤ 9223372036854775807) := by show _ ≤ _; omega
  have A5 : Hid (w.heap.size ≤ W0.heap.size) := by show _ ≤ _; omega
  go_enter Try.func21, Try.ntmps21
  go_wp2_with (refine wpl_append rfl (.tmp 3) (.tmp 7) _ _ rfl w.heap.size 4 (.bool false) 1 1 Try.underlying44 info_bool rfl (by decide) (.slice (some ⟨w.heap.size, 0, none⟩) 0 0) 0 [] rfl A1.out _ _ _ rfl A2.out A3.out A4.out A5.out ?_; intro v' w3 hown' hgrow; obtain ⟨g2, cap2, rfl, k1, k2, k3, k4, k5, k6⟩ := own_some (by omega) hown')
  go_ret
  have hm3 : Mod (fun _ => False) w w3 := HM0.out.trans' hgrow (fun k hk e => by have e : k = w.heap.size := Option.some.inj e; omega)
  have hne : g2 ≠ w3.heap.size := by omega
  refine ⟨w3.heap.size, g2, cap2, rfl, ⟨⟨new_at _ _, by rw [World.size_alloc]; omega, fun j hj => ?_, hn1, hn2⟩, fun e => hne e.symm, fun j hj => ?_⟩, hm3.size, k1, hm3.alloc _⟩
  · rw [World.cell?_of_block (a := ⟨g2, j, none⟩) (Below.heap_alloc _ _ _ k2)]
    exact k6 j _ (bools_get T n j hj)
  · rw [World.frozen?_of_block (a := ⟨g2, j, none⟩) (Below.heap_alloc _ _ _ k2)]
    exact k5 j (by omega)
end Go.Proofs.Ytfmlgleeojblkaa
