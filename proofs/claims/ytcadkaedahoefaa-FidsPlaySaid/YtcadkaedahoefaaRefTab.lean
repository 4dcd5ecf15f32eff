/- The document's Table: at, Get, On. -/
import Derived.Test.YtcadkaedahoefaaTabSet
namespace Go.Proofs.Ytcadkaedahoefaa
open Go.RowKit


structure DocP (w : World) (F : Nat → Prop) (b : Nat) (v : Value) (l : HL) (most : Int) : Prop where
  obj : w.heap[b]? = some (.cells #[v, .int .i64 most] 55 (0, 0))
  ol : OwnA w 0 6 v l.length (flatR heldC l)
  fl : ∀ k, some k = v.ownBlock → F k ∧ k ≠ b
  fb : F b
  lt : ∀ k, F k → k < w.heap.size
def DocAt (w : World) (F : Nat → Prop) (b : Nat) (l : HL) (most : Int) : Prop := ∃ v, DocP w F b v l most
theorem DocP.mod {w w' : World} {F S : Nat → Prop} {b : Nat} {v : Value} {l : HL} {most : Int} (h : DocP w F b v l most) (hm : Mod S w w') (hs : ∀ k, S k → ¬ F k) : DocP w' F b v l most where
  obj := (hm.block b (lt_of h.obj) (fun x => hs b x h.fb)).trans h.obj
  ol := h.ol.modB hm fun k hk x => hs k x (h.fl k hk).1
  fl := h.fl
  fb := h.fb
  lt := fun k hk => Nat.lt_of_lt_of_le (h.lt k hk) hm.size
theorem DocAt.mod {w w' : World} {F S : Nat → Prop} {b : Nat} {l : HL} {most : Int} (h : DocAt w F b l most) (hm : Mod S w w') (hs : ∀ k, S k → ¬ F k) : DocAt w' F b l most := by
  obtain ⟨v, h⟩ := h
  exact ⟨v, h.mod hm hs⟩
theorem DocP.held {w : World} {F : Nat → Prop} {b : Nat} {v : Value} {l : HL} {most : Int} (h : DocP w F b v l most) : HeldAt w (fun _ => True) v l := (h.ol.recs (by decide) held_len).imp fun _ _ => trivial
/-- a number's place -/
def AtH (l : HL) (x : Nat) (i : Int) : Prop := (i = -1 ∧ lookH l x = none) ∨ ∃ j : Nat, i = j ∧ ∃ h : j < l.length, l[j].1 = x ∧ ∀ p ∈ l.take j, p.1 ≠ x
theorem AtH.no {l : HL} {x : Nat} {i : Int} (h : AtH l x i) (hn : lookH l x = none) : i = -1 := by
  rcases h with ⟨h, _⟩ | ⟨j, _, hj, hx, _⟩
  · exact h
  · exact absurd hx (lookH_none.1 hn _ (List.getElem_mem hj))
theorem AtH.yes {l : HL} {x : Nat} {i : Int} {q : Fd} (h : AtH l x i) (hr : Rising l) (hs : lookH l x = some q) : ∃ j : Nat, i = j ∧ ∃ h : j < l.length, l[j] = (x, q) := by
  rcases h with ⟨_, h⟩ | ⟨j, e, hj, hx, _⟩
  · rw [hs] at h; cases h
  · exact ⟨j, e, hj, hr.inj (List.getElem_mem hj) ((lookH_some hr).1 hs) hx⟩
set_option maxHeartbeats 1000000 in
set_option maxRecDepth 100000 in
theorem dat_any (w : World) (b x : Nat) (v : Value) (l : HL) (P : Nat → Prop) (h : HeldAt w P v l) (hL : l.length ≤ 1000000) (c0 : w.cell? ⟨b, 0, none⟩ = some v) :
    Calls Try.prog 37 #[.pointer (some ⟨b, 0, none⟩), .int .u32 x] w fun e w' => ∃ i : Int, e = .returned (.int .i64 i) ∧ AtH l x i ∧ w' = w := by
  obtain ⟨va, vc, rfl, hvc, hvx⟩ := h.form
  clear h
  go_enter Try.func37, Try.ntmps37
  go_wp2
  go_loop [4, 5] (fun r i => ∃ j : Nat, j ≤ l.length ∧ r = .int .i64 0 ∧ i = .int .i64 j ∧ Hid (∀ p ∈ l.take j, p.1 ≠ x)) (fun _ i => l.length - (intOf i).toNat)
  case atStart => exact ⟨0, by omega, rfl, rfl, fun y hy => (by simp at hy)⟩
  case round =>
    obtain ⟨j, hj, rfl, rfl, HA⟩ := hrel
    by_cases hjl : j < l.length
    · obtain ⟨g, off, rfl, _, hg, hc⟩ := hvx j l[j] (List.getElem?_eq_getElem hjl)
      have t5 : decide ((j : Int) < (l.length : Int)) = true := by simp; omega
      have j1 : (0 : Int) ≤ (j : Int) := by omega
      have j2 : (j : Int) < (l.length : Int) := by omega
      have j3 : (l.length : Int) ≤ (vc : Int) := by omega
      have hstep : l.take (j + 1) = l.take j ++ [l[j]] := List.take_succ_eq_append_getElem hjl
      have HR : Hid (l[j].1 = x → AtH l x j) := fun h => Or.inr ⟨j, rfl, hjl, h, HA.out⟩
      have d0 := hc 0 _ rfl
      rw [Nat.add_zero] at d0
      generalize l[j] = y at *
      clear hvx hc
      by_cases hxy : y.1 = x
      · have HR2 := Lib.hid (HR.out hxy)
        subst hxy
        have u1 : ((y.1 : Int) == (y.1 : Int)) = true := by simp
        clear hstep HR
        go_wp2
        go_ret
        exact ⟨j, rfl, HR2.out, rfl⟩
      · have u1 : ((y.1 : Int) == (x : Int)) = false := by simp; omega
        have HA2 : Hid (∀ z ∈ l.take (j + 1), z.1 ≠ x) := by
          rw [hstep]
          intro z hz
          rcases List.mem_append.1 hz with h | h
          · exact HA.out z h
          · rw [List.mem_singleton.1 h]; exact hxy
        clear hstep hxy HR
        go_wp2
        go_round
        case rel => exact ⟨j + 1, hjl, rfl, by go_num, HA2⟩
        case measure => simp [intOf]; omega
    · obtain rfl : j = l.length := by omega
      have t5 : decide ((l.length : Int) < (l.length : Int)) = false := by simp
      have HN : Hid (lookH l x = none) := lookH_none.2 fun p hp => HA.out p (by rw [List.take_length]; exact hp)
      clear hvx
      go_wp2
      go_ret
      exact ⟨-1, rfl, Or.inl ⟨rfl, HN.out⟩, rfl⟩
set_option maxHeartbeats 1000000 in
set_option maxRecDepth 100000 in
theorem ron_any (w : World) (F : Nat → Prop) (b p : Nat) (l : HL) (most : Int) (h : DocAt w F b l most) (hL : l.length ≤ 1000000) :
    Calls Try.prog 29 #[.pointer (some ⟨b, 0, none⟩), .int .u64 p] w fun e w' => e = .returned (.int .i64 (onS l p)) ∧ w' = w := by
  obtain ⟨v, h⟩ := h
  obtain ⟨va, vc, rfl, hvc, hvx⟩ := h.held.form
  have c0 : w.cell? ⟨b, 0, none⟩ = some (.slice va l.length vc) := (cell_of h.obj 0).trans rfl
  clear h
  go_enter Try.func29, Try.ntmps29
  go_wp2
  go_loop [5, 6] (fun c i => ∃ j : Nat, j ≤ l.length ∧ c = .int .i64 (onS (l.take j) p) ∧ i = .int .i64 j) (fun _ i => l.length - (intOf i).toNat)
  case atStart => exact ⟨0, by omega, rfl, rfl⟩
  case round =>
    obtain ⟨j, hj, rfl, rfl⟩ := hrel
    by_cases hjl : j < l.length
    · obtain ⟨g, off, rfl, _, hg, hc⟩ := hvx j l[j] (List.getElem?_eq_getElem hjl)
      have t5 : decide ((j : Int) < (l.length : Int)) = true := by simp; omega
      have j1 : (0 : Int) ≤ (j : Int) := by omega
      have j2 : (j : Int) < (l.length : Int) := by omega
      have j3 : (l.length : Int) ≤ (vc : Int) := by omega
      have hst := on_step (p := p) hjl
      have hle := on_le (l.take j) p
      rw [List.length_take, Nat.min_eq_left hj] at hle
      have d1 := hc 1 _ rfl
      generalize l[j] = E at *
      clear hvx hc
      by_cases hp : E.2.path = p
      · have u1 : ((E.2.path : Int) == (p : Int)) = true := by simp [hp]
        rw [if_pos hp] at hst
        have HSt := Lib.hid hst
        clear hst hp
        go_wp2
        go_round
        case rel => exact ⟨j + 1, hjl, by rw [HSt.out]; go_num, by go_num⟩
        case measure => simp [intOf]; omega
      · have u1 : ((E.2.path : Int) == (p : Int)) = false := by simp; omega
        rw [if_neg hp] at hst
        have HSt := Lib.hid hst
        clear hst hp
        go_wp2
        go_round
        case rel => exact ⟨j + 1, hjl, by rw [HSt.out]; rfl, by go_num⟩
        case measure => simp [intOf]; omega
    · obtain rfl : j = l.length := by omega
      have t5 : decide ((l.length : Int) < (l.length : Int)) = false := by simp
      have HV : Hid (onS (l.take l.length) p = onS l p) := by show _ = _; rw [List.take_length]
      clear hvx
      go_wp2
      go_ret
      exact ⟨by rw [← HV.out]; rfl, rfl⟩
set_option maxHeartbeats 1000000 in
set_option maxRecDepth 100000 in
theorem rget_any (w : World) (F : Nat → Prop) (b x : Nat) (l : HL) (most : Int) (h : DocAt w F b l most) (hr : Rising l) (hL : l.length ≤ 1000000) :
    Calls Try.prog 21 #[.pointer (some ⟨b, 0, none⟩), .int .u32 x] w fun e w' => e = .returned (.tuple #[(getS l x).1.v, .int .i64 (getS l x).2]) ∧ Mod (fun _ => False) w w' := by
  obtain ⟨W1, hW1⟩ : ∃ W1, w.alloc (.cells #[.int .u64 0, .string { data := #[] }, .bool false, .int .u8 0, .int .u64 0] 59) = W1 := ⟨_, rfl⟩
  have m1 : Mod (fun _ => False) w W1 := by subst hW1; exact (Mod.refl _ _).alloc _
  have hr1 : W1.heap[w.heap.size]? = some (.cells #[.int .u64 0, .string { data := #[] }, .bool false, .int .u8 0, .int .u64 0] 59 (0, 0)) := by subst hW1; exact new_at _ _
  obtain ⟨v, h⟩ := h
  have h1 := h.mod m1 (fun _ x => x.elim)
  obtain ⟨va, vc, rfl, hvc, hvx⟩ := h1.held.form
  have c0 : W1.cell? ⟨b, 0, none⟩ = some (.slice va l.length vc) := (cell_of h1.obj 0).trans rfl
  have hA := dat_any W1 b x _ l _ h1.held hL c0
  have r0 : (W1).cell? ⟨w.heap.size, 0, none⟩ = some (.int .u64 0) := (cell_of (hr1) 0).trans rfl
  have rf0 : (W1).frozen? ⟨w.heap.size, 0, none⟩ = false := free_of (hr1) 0
  have r1 : (W1).cell? ⟨w.heap.size, 1, none⟩ = some (.string { data := #[] }) := (cell_of (hr1) 1).trans rfl
  have rf1 : (W1).frozen? ⟨w.heap.size, 1, none⟩ = false := free_of (hr1) 1
  have r2 : (W1).cell? ⟨w.heap.size, 2, none⟩ = some (.bool false) := (cell_of (hr1) 2).trans rfl
  have rf2 : (W1).frozen? ⟨w.heap.size, 2, none⟩ = false := free_of (hr1) 2
  have r3 : (W1).cell? ⟨w.heap.size, 3, none⟩ = some (.int .u8 0) := (cell_of (hr1) 3).trans rfl
  have rf3 : (W1).frozen? ⟨w.heap.size, 3, none⟩ = false := free_of (hr1) 3
  have r4 : (W1).cell? ⟨w.heap.size, 4, none⟩ = some (.int .u64 0) := (cell_of (hr1) 4).trans rfl
  have rf4 : (W1).frozen? ⟨w.heap.size, 4, none⟩ = false := free_of (hr1) 4
  have M1 := Lib.hid m1
  have HR1 := Lib.hid hr1
  clear m1 h h1
  cases hl : lookH l x with
  | none =>
    have HV : Hid (getS l x = (Fd.zero, 5)) := by show _ = _; unfold getS; rw [hl]
    have HL := Lib.hid hl
    have e0 : W1.setCell ⟨w.heap.size, 0, none⟩ (.int .u64 0) = W1 := setCell_idn hr1 rfl
    have e1 : W1.setCell ⟨w.heap.size, 1, none⟩ (.string { data := #[] }) = W1 := setCell_idn hr1 rfl
    have e2 : W1.setCell ⟨w.heap.size, 2, none⟩ (.bool false) = W1 := setCell_idn hr1 rfl
    have e3 : W1.setCell ⟨w.heap.size, 3, none⟩ (.int .u8 0) = W1 := setCell_idn hr1 rfl
    have e4 : W1.setCell ⟨w.heap.size, 4, none⟩ (.int .u64 0) = W1 := setCell_idn hr1 rfl
    clear hl hr1 hvx
    go_enter Try.func21, Try.ntmps21
    go_wp2_with fail
    refine hA.mono ?_
    rintro e w2 ⟨i, rfl, ha, rfl⟩
    obtain rfl := ha.no HL.out
    clear hA
    go_wp2
    have hz := HR1.out
    have z0 : (w2).cell? ⟨w.heap.size, 0, none⟩ = some (.int .u64 0) := (cell_of (hz) 0).trans rfl
    have z1 : (w2).cell? ⟨w.heap.size, 1, none⟩ = some (.string { data := #[] }) := (cell_of (hz) 1).trans rfl
    have z2 : (w2).cell? ⟨w.heap.size, 2, none⟩ = some (.bool false) := (cell_of (hz) 2).trans rfl
    have z3 : (w2).cell? ⟨w.heap.size, 3, none⟩ = some (.int .u8 0) := (cell_of (hz) 3).trans rfl
    have z4 : (w2).cell? ⟨w.heap.size, 4, none⟩ = some (.int .u64 0) := (cell_of (hz) 4).trans rfl
    refine bodyPost_ret (v := .tuple #[.agg #[.int .u64 0, .string { data := #[] }, .bool false, .int .u8 0, .int .u64 0], .int .i64 5]) ?_ rfl ⟨by rw [HV.out]; rfl, M1.out⟩
    simp [results, Try.f21, go_sem, z0, z1, z2, z3, z4]
  | some q0 =>
    have HV : Hid (getS l x = (q0, 0)) := by show _ = _; unfold getS; rw [hl]
    have HL := Lib.hid hl
    clear hl hr1
    go_enter Try.func21, Try.ntmps21
    go_wp2_with fail
    refine hA.mono ?_
    rintro e w2 ⟨i, rfl, ha, rfl⟩
    obtain ⟨j, rfl, hj, hx⟩ := ha.yes hr HL.out
    obtain ⟨g, off, rfl, _, hg, hc⟩ := hvx j l[j] (List.getElem?_eq_getElem hj)
    rw [hx] at hc
    have d1 := hc 1 _ rfl
    have d2 := hc 2 _ rfl
    have d3 := hc 3 _ rfl
    have d4 := hc 4 _ rfl
    have d5 := hc 5 _ rfl
    have j1 : (0 : Int) ≤ (j : Int) := by omega
    have j2 : (j : Int) < (l.length : Int) := by omega
    have j3 : (l.length : Int) ≤ (vc : Int) := by omega
    have i1 : ((j : Int) < 0) = False := by simp
    clear hA hx hc ha hvx
    go_wp2
    obtain ⟨W6, hW6⟩ : ∃ W6, ((((((w2).setCell ⟨w.heap.size, 0, none⟩ (.int .u64 q0.path)).setCell ⟨w.heap.size, 1, none⟩ (.string q0.who)).setCell ⟨w.heap.size, 2, none⟩ (.bool q0.opn)).setCell ⟨w.heap.size, 3, none⟩ (.int .u8 q0.mode)).setCell ⟨w.heap.size, 4, none⟩ (.int .u64 q0.next)) = W6 := ⟨_, rfl⟩
    have h6 : W6.heap[w.heap.size]? = some (.cells #[.int .u64 q0.path, .string q0.who, .bool q0.opn, .int .u8 q0.mode, .int .u64 q0.next] 59 (0, 0)) := by subst hW6; exact set5 HR1.out _ _ _ _ _
    have hm6 : Mod (· = w.heap.size) w2 W6 := by subst hW6; exact mod5 _ _ _ _ _ _ _
    rw [hW6]
    have z0 : (W6).cell? ⟨w.heap.size, 0, none⟩ = some (.int .u64 q0.path) := (cell_of (h6) 0).trans rfl
    have z1 : (W6).cell? ⟨w.heap.size, 1, none⟩ = some (.string q0.who) := (cell_of (h6) 1).trans rfl
    have z2 : (W6).cell? ⟨w.heap.size, 2, none⟩ = some (.bool q0.opn) := (cell_of (h6) 2).trans rfl
    have z3 : (W6).cell? ⟨w.heap.size, 3, none⟩ = some (.int .u8 q0.mode) := (cell_of (h6) 3).trans rfl
    have z4 : (W6).cell? ⟨w.heap.size, 4, none⟩ = some (.int .u64 q0.next) := (cell_of (h6) 4).trans rfl
    refine bodyPost_ret (v := .tuple #[.agg #[.int .u64 q0.path, .string q0.who, .bool q0.opn, .int .u8 q0.mode, .int .u64 q0.next], .int .i64 0]) ?_ rfl ⟨by rw [HV.out]; rfl, M1.out.trans' hm6 (fun j hj e => by omega)⟩
    simp [results, Try.f21, go_sem, z0, z1, z2, z3, z4]
end Go.Proofs.Ytcadkaedahoefaa
