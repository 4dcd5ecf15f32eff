/- Package slices' DeleteFunc, as fids uses it. -/
import Derived.Test.YtcadkaedahoefaaFidTags
namespace Go.Proofs.Ytcadkaedahoefaa
open Go.RowKit

theorem end1_any (bt x tag : Nat) (w : World) (hc : w.cell? ⟨bt, 0, none⟩ = some (.int .u16 tag)) :
    Calls Try.prog 32 #[.int .u16 x, .pointer (some ⟨bt, 0, none⟩)] w fun e w' => e = .returned (.bool (decide (x = tag))) ∧ w' = w := by
  have hb : ((x : Int) == (tag : Int)) = decide (x = tag) := by
    by_cases h : x = tag
    · subst h; simp
    · simp [h]; omega
  have HB := Lib.hid hb
  clear hb
  go_enter Try.func32, Try.ntmps32
  go_wp2
  go_ret
  exact ⟨by rw [← HB.out]; rfl, rfl⟩
set_option maxHeartbeats 1000000 in
set_option maxRecDepth 100000 in
theorem indexf_any (v : Value) (L : List Nat) (bt tag : Nat) (P : Nat → Prop) (w : World) (h : SlAt w P v (u16s L)) (hL : L.length ≤ 140737488355328) (hc : w.cell? ⟨bt, 0, none⟩ = some (.int .u16 tag)) :
    Calls Try.prog 41 #[v, .func (.func 32) #[] #[.pointer (some ⟨bt, 0, none⟩)]] w fun e w' =>
      ((e = .returned (.int .i64 (-1)) ∧ tag ∉ L) ∨ ∃ i : Nat, e = .returned (.int .i64 i) ∧ ∃ hi : i < L.length, L[i] = tag ∧ ∀ y ∈ L.take i, y ≠ tag) ∧ w' = w := by
  obtain ⟨va, vc, rfl, hvc, hvx⟩ := h.form
  clear h
  rw [u16s_length] at hvc ⊢
  have hE := fun x => end1_any bt x tag w hc
  go_enter Try.func41, Try.ntmps41
  go_wp2
  go_loop [4, 8] (fun r i => ∃ j : Nat, j ≤ L.length ∧ r = .int .i64 0 ∧ i = .int .i64 j ∧ Hid (∀ y ∈ L.take j, y ≠ tag)) (fun _ i => L.length - (intOf i).toNat)
  case atStart => exact ⟨0, by omega, rfl, rfl, fun y hy => (by simp at hy)⟩
  case round =>
    obtain ⟨j, hj, rfl, rfl, HA⟩ := hrel
    by_cases hjl : j < L.length
    · obtain ⟨g, off, rfl, _, hg, hc2⟩ := hvx j _ (u16s_get hjl)
      have t5 : decide ((j : Int) < (L.length : Int)) = true := by simp; omega
      have j1 : (0 : Int) ≤ (j : Int) := by omega
      have j2 : (j : Int) < (L.length : Int) := by omega
      have j3 : (L.length : Int) ≤ (vc : Int) := by omega
      have hstep : L.take (j + 1) = L.take j ++ [L[j]] := List.take_succ_eq_append_getElem hjl
      have HR : Hid (L[j] = tag → ∃ hi : j < L.length, L[j] = tag ∧ ∀ y ∈ L.take j, y ≠ tag) := fun h => ⟨hjl, h, HA.out⟩
      generalize L[j] = y at *
      clear hvx
      have hEy := hE y
      clear hE
      by_cases hxy : y = tag
      · rw [decide_eq_true hxy] at hEy
        have HR2 := Lib.hid (HR.out hxy)
        clear hstep HR hxy
        go_wp2_with fail
        refine hEy.mono ?_
        rintro e w1 ⟨rfl, rfl⟩
        go_wp2
        go_ret
        exact ⟨Or.inr ⟨j, rfl, HR2.out⟩, rfl⟩
      · rw [decide_eq_false hxy] at hEy
        have HA2 : Hid (∀ z ∈ L.take (j + 1), z ≠ tag) := by
          rw [hstep]
          intro z hz
          rcases List.mem_append.1 hz with h | h
          · exact HA.out z h
          · rw [List.mem_singleton.1 h]; exact hxy
        clear hstep HR hxy
        go_wp2_with fail
        refine hEy.mono ?_
        rintro e w1 ⟨rfl, rfl⟩
        go_wp2
        go_round
        case rel => exact ⟨j + 1, hjl, rfl, by go_num, HA2⟩
        case measure => simp [intOf]; omega
    · obtain rfl : j = L.length := by omega
      have t5 : decide ((L.length : Int) < (L.length : Int)) = false := by simp
      have hHA := HA.out
      rw [List.take_length] at hHA
      have HR := Lib.hid (fun h => hHA tag h rfl : tag ∉ L)
      clear hvx hHA hE
      go_wp2
      go_ret
      exact ⟨Or.inl ⟨rfl, HR.out⟩, rfl⟩

/-- a row of m cells: A at its head, B from hi on -/
structure RowD (w : World) (g m : Nat) (A : List Value) (hi : Nat) (B : List Value) : Prop where
  ok : ∀ j, j < m → (w.cell? ⟨g, j, none⟩).isSome = true
  free : ∀ j, j < m → w.frozen? ⟨g, j, none⟩ = false
  lo : ∀ j u, A[j]? = some u → w.cell? ⟨g, j, none⟩ = some u
  up : ∀ j u, B[j]? = some u → w.cell? ⟨g, hi + j, none⟩ = some u
  lt : g < w.heap.size
theorem RowD.mod {w w' : World} {g m hi : Nat} {A B : List Value} {S : Nat → Prop} (h : RowD w g m A hi B) (hm : Mod S w w') (hs : ¬ S g) : RowD w' g m A hi B := by
  have hb := hm.block g h.lt hs
  have hc : ∀ j, w'.cell? ⟨g, j, none⟩ = w.cell? ⟨g, j, none⟩ := fun j => World.cell?_of_block (a := ⟨g, j, none⟩) hb
  have hf : ∀ j, w'.frozen? ⟨g, j, none⟩ = w.frozen? ⟨g, j, none⟩ := fun j => World.frozen?_of_block (a := ⟨g, j, none⟩) hb
  exact ⟨fun j hj => by rw [hc]; exact h.ok j hj, fun j hj => by rw [hf]; exact h.free j hj, fun j u hj => by rw [hc]; exact h.lo j u hj, fun j u hj => by rw [hc]; exact h.up j u hj, Nat.lt_of_lt_of_le h.lt hm.size⟩
theorem RowD.skip {w : World} {g m hi : Nat} {A x B : List Value} (h : RowD w g m A hi (x ++ B)) : RowD w g m A (hi + x.length) B :=
  ⟨h.ok, h.free, h.lo, fun j u hj => by
    have := h.up (x.length + j) u (by rw [List.getElem?_append_right (by omega), Nat.add_sub_cancel_left]; exact hj)
    rw [← Nat.add_assoc] at this
    exact this, h.lt⟩
theorem RowD.put {w : World} {g m hi : Nat} {A B : List Value} (v : Value) (h : RowD w g m A hi B) (h1 : A.length < hi) (h2 : A.length < m) : RowD (w.setCell ⟨g, A.length, none⟩ v) g m (A ++ [v]) hi B := by
  have hin : (w.setCell ⟨g, A.length, none⟩ v).cell? ⟨g, A.length, none⟩ = .some v := World.cell?_setCell_same' _ _ _ (h.ok _ h2)
  have hout : ∀ j, j ≠ A.length → (w.setCell ⟨g, A.length, none⟩ v).cell? ⟨g, j, none⟩ = w.cell? ⟨g, j, none⟩ := fun j hj => World.cell?_setCell_other _ ⟨g, A.length, none⟩ ⟨g, j, none⟩ _ (by intro e; injection e with _ e; exact hj e.symm)
  refine ⟨fun j hj => ?_, fun j hj => by rw [World.frozen?_setCell]; exact h.free j hj, fun j u hj => ?_, fun j u hj => by rw [hout _ (by omega)]; exact h.up j u hj, by simpa [World.setCell] using h.lt⟩
  · by_cases e : j = A.length
    · subst e; rw [hin]; rfl
    · rw [hout j e]; exact h.ok j hj
  · by_cases e : j = A.length
    · subst e
      rw [List.getElem?_append_right (Nat.le_refl _), Nat.sub_self] at hj
      rw [hin]; exact hj
    · have hlt : j < A.length := by
        have := (List.getElem?_eq_some_iff.1 hj).1
        rw [List.length_append, List.length_singleton] at this
        omega
      rw [List.getElem?_append_left hlt] at hj
      rw [hout j e]
      exact h.lo j u hj
theorem mem_zeroCells {zs : Array Value} (h0 : 0 < zs.size) {n : Nat} {v : Value} (h : v ∈ (Builtin.zeroCells zs n).toList) : v ∈ zs.toList := by
  unfold Builtin.zeroCells at h
  simp only [Array.toList_map, List.mem_map] at h
  obtain ⟨i, _, rfl⟩ := h
  rw [getElem!_pos zs _ (Nat.mod_lt _ h0)]
  exact Array.mem_toList_iff.2 (Array.getElem_mem _)
theorem clear_row {P : Program} (t e : TypeId) (z : Value) (ht : P.underlying t = some (.slice e)) (hv : ∀ w, (zeroValue e).run P w = .ok z w) (k : Nat) (hk : z.cells.size = k) (h0 : 0 < k) (h1 : ∀ u ∈ z.cells.toList, u.oneCell' = true)
    (w : World) (g o n c m hi : Nat) (A : List Value) (hn : 0 < n) (hm : o + n * k ≤ m) (h : RowD w g m A hi []) (hA : A.length ≤ o) :
    ∃ w', (∀ ty, (Builtin.clear_ #[t] ty #[.slice (some ⟨g, o, none⟩) n c]).run P w = .ok (.tuple #[]) w') ∧ RowD w' g m A 0 [] ∧ Mod (· = g) w w' := by
  have hlen : (Builtin.zeroCells z.cells n).toList.length = n * k := by rw [Array.length_toList, size_zeroCells, hk]
  have hst := run_storeCells_cells (P := P) g o (Builtin.zeroCells z.cells n).toList 0 w (fun j hj => h.ok _ (by omega)) (fun j hj => h.free _ (by omega)) (fun v hv' => h1 v (mem_zeroCells (by omega) hv'))
  simp only [Nat.add_zero] at hst
  have hin := World.cell?_setCells_in g (Builtin.zeroCells z.cells n).toList o w (fun j hj => h.ok _ (by omega))
  have hout := fun j (hj : j < o ∨ o + n * k ≤ j) => World.cell?_setCells_out g (Builtin.zeroCells z.cells n).toList o w ⟨g, j, none⟩ (fun _ _ => by rw [hlen]; exact hj)
  have hmod : Mod (· = g) w (w.setCells g o (Builtin.zeroCells z.cells n).toList) := mod_setCells g _ _ _ (Mod.refl _ w) (Or.inl rfl)
  refine ⟨_, fun ty => ?_, ⟨fun j hj => ?_, fun j hj => by rw [World.frozen?_setCells]; exact h.free j hj, fun j u hj => ?_, fun j u hj => (by cases hj), Nat.lt_of_lt_of_le h.lt hmod.size⟩, hmod⟩
  · obtain ⟨q, rfl⟩ : ∃ q, n = q + 1 := ⟨n - 1, by omega⟩
    simp [Builtin.clear_, run_underlying ht, hv, hst]
  · by_cases hj2 : j < o ∨ o + n * k ≤ j
    · rw [hout j hj2]; exact h.ok j hj
    · have := hin (j - o) (by rw [hlen]; omega)
      rw [show o + (j - o) = j from by omega] at this
      rw [this]; rfl
  · rw [hout j (Or.inl (by have := (List.getElem?_eq_some_iff.1 hj).1; omega))]
    exact h.lo j u hj
theorem RowD.own {w : World} {g cap k n : Nat} {A : List Value} {hi : Nat} {B : List Value} (h : RowD w g (cap * k) A hi B) (hl : A.length = n * k) (hn : n ≤ cap) : OwnA w 0 k (.slice (some ⟨g, 0, none⟩) n cap) n A :=
  ⟨hl, .inr ⟨g, cap, rfl, Nat.zero_le _, h.lt, hn, h.ok, h.free, h.lo⟩⟩
theorem OwnA.rowD {w : World} {base g cap k n : Nat} {A B : List Value} (h : OwnA w base k (.slice (some ⟨g, 0, none⟩) n cap) n (A ++ B)) : RowD w g (cap * k) A A.length B := by
  rcases h.2 with ⟨e, _⟩ | ⟨g', cap', e, _, h3, h4, h5, h6, h7⟩
  · cases e
  · injection e with e1 e2 e3
    injection e1 with e1
    injection e1 with e1
    subst e1 e3
    exact ⟨h5, h6, fun j u hj => h7 j u (by rw [List.getElem?_append_left (List.getElem?_eq_some_iff.1 hj).1]; exact hj), fun j u hj => h7 _ u (by rw [List.getElem?_append_right (by omega), Nat.add_sub_cancel_left]; exact hj), h3⟩
theorem lt_of_cell {w : World} {b i : Nat} {v : Value} (h : w.cell? ⟨b, i, none⟩ = some v) : b < w.heap.size := World.block_lt_of_cell? (a := ⟨b, i, none⟩) _ h
theorem zero_u16 (w : World) : (zeroValue 29).run Try.prog w = .ok (.int .u16 0) w := by kernel_rfl
theorem filter_step {α : Type} (p : α → Bool) {L : List α} {j : Nat} (h : j < L.length) : (L.take (j + 1)).filter p = (L.take j).filter p ++ (if p L[j] = true then [L[j]] else []) := by
  rw [List.take_succ_eq_append_getElem h, List.filter_append]
  congr 1
  by_cases hp : p L[j] = true
  · rw [if_pos hp, List.filter_cons_of_pos hp]; rfl
  · rw [if_neg hp, List.filter_cons_of_neg hp]; rfl
theorem u16s_drop {L : List Nat} {j : Nat} (h : j < L.length) : u16s (L.drop j) = [.int .u16 L[j]] ++ u16s (L.drop (j + 1)) := by
  rw [List.drop_eq_getElem_cons h]; rfl
def dropL (tag : Nat) (L : List Nat) : List Nat := L.filter fun y => decide (y ≠ tag)
set_option maxHeartbeats 2000000 in
set_option maxRecDepth 100000 in
theorem delf_any (v : Value) (L : List Nat) (bt tag : Nat) (w : World) (h : OwnA w 0 1 v L.length (u16s L)) (hL : L.length ≤ 1000000) (hc : w.cell? ⟨bt, 0, none⟩ = some (.int .u16 tag)) (hbt : ∀ k, some k = v.ownBlock → k ≠ bt) :
    Calls Try.prog 31 #[v, .func (.func 32) #[] #[.pointer (some ⟨bt, 0, none⟩)]] w fun e w' =>
      ∃ v', e = .returned v' ∧ OwnA w' 0 1 v' (dropL tag L).length (u16s (dropL tag L)) ∧ Mod (fun k => some k = v.ownBlock) w w' ∧ (∀ k, some k = v'.ownBlock → some k = v.ownBlock) := by
  have hI := indexf_any v L bt tag (fun _ => True) w (h.slAt.imp fun _ _ => trivial) (by omega) hc
  obtain ⟨va, vc, rfl, hvc⟩ := h.form
  have HO := Lib.hid h
  clear h
  go_enter Try.func31, Try.ntmps31
  go_wp2_with fail
  refine hI.mono ?_
  rintro e w1 ⟨hi, rfl⟩
  rcases hi with ⟨rfl, hno⟩ | ⟨i, rfl, hil, hit, hia⟩
  · have hf : L.filter (fun y => decide (y ≠ tag)) = L := List.filter_eq_self.2 fun y hy => by simpa using fun e : y = tag => hno (by rw [← e]; exact hy)
    have HF : Hid (dropL tag L = L) := hf
    clear hf hno hI
    go_wp2
    go_ret
    exact ⟨_, rfl, by rw [HF.out]; exact HO.out, Mod.refl _ _, fun k hk => hk⟩
  · have hg : ∃ g, va = some ⟨g, 0, none⟩ := by
      rcases HO.out.2 with ⟨e, h0⟩ | ⟨g, cap, e, _⟩
      · omega
      · injection e with e1 e2 e3
        exact ⟨g, e1⟩
    obtain ⟨g, rfl⟩ := hg
    have hgb : g ≠ bt := hbt g rfl
    have t0 : ((i : Int) == -1) = false := by simp
    have hp0 : (L.take i).filter (fun y => decide (y ≠ tag)) = L.take i := List.filter_eq_self.2 fun y hy => by simpa using hia y hy
    have hp1 := filter_step (fun y => decide (y ≠ tag)) hil
    rw [hit, hp0] at hp1
    simp only [ne_eq, not_true_eq_false, decide_false, Bool.false_eq_true, if_false, List.append_nil] at hp1
    have hrow : RowD w1 g vc (u16s (L.take i)) i (u16s (L.drop i)) := by
      have h2 := HO.out
      rw [← List.take_append_drop i L, u16s_append] at h2
      have h3 := h2.rowD
      rw [u16s_length, List.length_take, Nat.min_eq_left (by omega), Nat.mul_one] at h3
      exact h3
    rw [u16s_drop hil] at hrow
    have hrow := hrow.skip
    rw [List.length_singleton] at hrow
    have HR : Hid (RowD w1 g vc (u16s ((L.take (i + 1)).filter fun y => decide (y ≠ tag))) (i + 1) (u16s (L.drop (i + 1)))) := by rw [hp1]; exact hrow
    have HL : Hid (((L.take (i + 1)).filter fun y => decide (y ≠ tag)).length = i) := by show _ = _; rw [hp1, List.length_take]; omega
    clear hp0 hp1 hit hia hrow hI
    go_wp2
    go_loopw [5, 6] (fun ii jj wr => ∃ a j : Nat, a < j ∧ j ≤ L.length ∧ ii = .int .i64 a ∧ jj = .int .i64 j ∧ Hid (((L.take j).filter fun y => decide (y ≠ tag)).length = a) ∧ Hid (RowD wr g vc (u16s ((L.take j).filter fun y => decide (y ≠ tag))) j (u16s (L.drop j))) ∧ Hid (Mod (· = g) w1 wr)) (fun _ jj _ => L.length - (intOf jj).toNat)
    case atStart => exact ⟨i, i + 1, by omega, by omega, rfl, by go_num, HL, HR, Mod.refl _ _⟩
    case round =>
      obtain ⟨a, j, haj, hj, rfl, rfl, HLa, HRa, HM⟩ := hrel
      by_cases hjl : j < L.length
      · have t5 : decide ((j : Int) < (L.length : Int)) = true := by simp; omega
        have j1 : (0 : Int) ≤ (j : Int) := by omega
        have j2 : (j : Int) < (L.length : Int) := by omega
        have j3 : (L.length : Int) ≤ (vc : Int) := by omega
        have j4 : (0 : Int) ≤ (a : Int) := by omega
        have j5 : (a : Int) < (L.length : Int) := by omega
        have hE := fun x => end1_any bt x tag _ ((World.cell?_of_block (a := ⟨bt, 0, none⟩) (HM.out.block bt (lt_of_cell hc) (fun e => hgb e.symm))).trans hc)
        have hd := u16s_drop hjl
        have hfs := filter_step (fun y => decide (y ≠ tag)) hjl
        have hra := HRa.out
        rw [hd] at hra
        have hcj := hra.up 0 _ rfl
        rw [Nat.add_zero] at hcj
        have hsk := hra.skip
        rw [List.length_singleton] at hsk
        have hua : (u16s ((L.take j).filter fun y => decide (y ≠ tag))).length = a := by rw [u16s_length]; exact HLa.out
        generalize L[j] = y at *
        have hEy := hE y
        clear hE hra hd HO HR HL
        by_cases hxy : y = tag
        · rw [decide_eq_true hxy] at hEy
          rw [if_neg (by simp [hxy]), List.append_nil] at hfs
          have HLn : Hid (((L.take (j + 1)).filter fun y => decide (y ≠ tag)).length = a) := by rw [hfs]; exact HLa
          have HRn := Lib.hid hsk
          rw [← hfs] at HRn
          clear hfs hxy hsk hua
          go_wp2_with fail
          refine hEy.mono ?_
          rintro e w2 ⟨rfl, rfl⟩
          go_wp2
          go_roundw
          case rel => exact ⟨a, j + 1, by omega, hjl, rfl, by go_num, HLn, HRn, HM⟩
          case measure => simp [intOf]; omega
        · rw [decide_eq_false hxy] at hEy
          rw [if_pos (by simp [hxy])] at hfs
          have hput := hsk.put (.int .u16 y) (by omega) (by omega)
          rw [hua, show u16s ((L.take j).filter fun y => decide (y ≠ tag)) ++ [Value.int .u16 y] = u16s ((L.take (j + 1)).filter fun y => decide (y ≠ tag)) by rw [hfs, u16s_append]; rfl] at hput
          have HRn := Lib.hid hput
          have HLn : Hid (((L.take (j + 1)).filter fun y => decide (y ≠ tag)).length = a + 1) := by show _ = _; rw [hfs, List.length_append]; have := HLa.out; simp only [List.length_singleton]; omega
          obtain ⟨u0, s1⟩ := Option.isSome_iff_exists.1 (hsk.ok a (by omega))
          have s2 := hsk.free a (by omega)
          clear hfs hxy hsk hua hput
          go_wp2_with fail
          refine hEy.mono ?_
          rintro e w2 ⟨rfl, rfl⟩
          go_wp2
          go_roundw
          case rel => exact ⟨a + 1, j + 1, by omega, hjl, by go_num, by go_num, HLn, HRn, HM.out.setCell (p := ⟨g, a, none⟩) (Or.inl rfl) _⟩
          case measure => simp [intOf]; omega
      · obtain rfl : j = L.length := by omega
        have t5 : decide ((L.length : Int) < (L.length : Int)) = false := by simp
        have hra := HRa.out
        have hla := HLa.out
        rw [List.take_length] at hra hla
        rw [List.drop_length] at hra
        obtain ⟨w2, hcl, hr2, hm2⟩ := clear_row (P := Try.prog) 34 29 (.int .u16 0) Try.underlying34 zero_u16 1 rfl (by decide) (by intro u hu; simp [Value.cells] at hu; subst hu; rfl) wr g a (L.length - a) (vc - a) vc L.length _ (by omega) (by omega) hra (by rw [u16s_length]; omega)
        have HEnd : Hid (OwnA w2 0 1 (.slice (some ⟨g, 0, none⟩) a vc) (L.filter fun y => decide (y ≠ tag)).length (u16s (L.filter fun y => decide (y ≠ tag)))) := by
          have h5 : RowD w2 g (vc * 1) (u16s (L.filter fun y => decide (y ≠ tag))) 0 [] := by rw [Nat.mul_one]; exact hr2
          have := h5.own (n := a) (by rw [u16s_length, hla, Nat.mul_one]) (by omega)
          rw [← hla] at this
          rw [← hla]
          exact this
        have HM2 := Lib.hid (HM.out.trans hm2)
        have i1 : (a : Int) ≤ (L.length : Int) := by omega
        have i2 : (0 : Int) ≤ (a : Int) := by omega
        have i3 : (L.length : Int) ≤ (vc : Int) := by omega
        have i4 : (a : Int) ≤ (vc : Int) := by omega
        clear hra hla hr2 hm2 HRa HLa HR HL HO
        go_wp2
        go_ret
        exact ⟨_, rfl, HEnd.out, HM2.out.mono fun k _ e => by subst e; rfl, fun k hk => hk⟩
end Go.Proofs.Ytcadkaedahoefaa
