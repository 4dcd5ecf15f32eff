/- The law's copied, once more: whose the lists are. And a text put into a row of one's own. -/
import Derived.Test.YtklpopmjpgdjnaaGreatDoorQLawLong
set_option linter.unusedVariables false
set_option linter.unusedSimpArgs false
namespace Go.Proofs.YtklpopmjpgdjnaaGreatDoor
open Go.RowKit

set_option maxHeartbeats 4000000 in
set_option maxRecDepth 100000 in
theorem copied_own (m : Msg) (vn vq : Value) (P : Nat → Prop) (w : World) (hnl : m.names.length ≤ 1000000) (hql : m.qids.length ≤ 1000000) (hn : SlAt w P vn (m.names.map .string)) (hq : RecsAt Qd.cells 3 w P vq m.qids) :
    Calls Tryz.prog 16 #[.agg (m.cells vn vq).toArray] w fun e w' => ∃ vn' vq' B, e = .returned (.agg (m.cells vn' vq').toArray) ∧ OwnA w' w.heap.size 1 vn' m.names.length (m.names.map Value.string) ∧ (∀ k, some k = vn'.ownBlock → k < B) ∧ RecsAt Qd.cells 3 w' (B ≤ ·) vq' m.qids ∧ Mod (fun _ => False) w w' := by
  obtain ⟨W, hW⟩ : ∃ W, w.alloc (.cells (m.cells vn vq).toArray 33) = W := ⟨_, rfl⟩
  have hb : W.heap[w.heap.size]? = some (msgO m vn vq) := by subst hW; exact new_at _ _
  have m0 : Mod (fun _ => False) w W := by subst hW; exact (Mod.refl _ w).alloc _
  obtain ⟨V, hV⟩ : ∃ V, W.alloc (msgO Msg.zero (.slice none 0 0) (.slice none 0 0)) = V := ⟨_, rfl⟩
  have hz : V.heap[W.heap.size]? = some (msgO Msg.zero (.slice none 0 0) (.slice none 0 0)) := by subst hV; exact new_at _ _
  have m1 : Mod (fun _ => False) W V := by subst hV; exact (Mod.refl _ W).alloc _
  have hsz : W.heap.size = w.heap.size + 1 := by subst hW; simp
  have hb1 := (m1.block _ (lt_of hb) (fun x => x)).trans hb
  have hn1 := hn.mod (m0.trans m1) (fun _ _ _ x => x)
  have hq1 := hq.mod (m0.trans m1) (fun _ _ _ x => x)
  obtain ⟨an, cn, rfl, hcn, _⟩ := hn1.form
  obtain ⟨aq, cq, rfl, hcq, _⟩ := hq1.form
  rw [List.length_map] at *
  have hV' : W.alloc (.cells #[.int .u8 0, .int .u16 0, .int .u32 0, .string { data := #[] }, .int .u32 0, .int .u32 0, .int .u32 0, .int .u16 0, .string { data := #[] }, .string { data := #[] }, .string { data := #[] }, .string { data := #[] }, .slice none 0 0, .int .u8 0, .int .u32 0, .int .u64 0, .slice none 0 0, .int .u8 0, .int .u32 0, .int .u32 0, .int .u64 0, .int .u32 0, .string { data := #[] }, .int .u16 0, .int .u32 0, .int .u8 0, .int .u32 0, .int .u64 0, .int .u32 0, .int .u32 0, .int .u32 0, .int .u64 0, .string { data := #[] }, .string { data := #[] }, .string { data := #[] }, .string { data := #[] }] 33) = V := hV
  have c12 : V.cell? ⟨w.heap.size, 12, none⟩ = some (.slice an m.names.length cn) := (cell_of hb1 12).trans rfl
  have C1 : Hid ((0 + m.names.length) * 16 ≤ 140737488355328) := by show _ ≤ _; omega
  have C2 : Hid (0 + m.names.length ≤ 9223372036854775807) := by show _ ≤ _; omega
  have C5 : Hid (Src Tryz.prog 1 25 (.slice an m.names.length cn) m.names.length (m.names.map Value.string) V) := src_slAt Tryz.underlying25 hn1 (by rw [List.length_map]) (by intro u hu; obtain ⟨y, _, rfl⟩ := List.mem_map.1 hu; rfl)
  have hq0 := hq
  have hVw : w.heap.size < V.heap.size := lt_of hb1
  have hVW : W.heap.size < V.heap.size := lt_of hz
  have F3 : ∀ v3 w3, OwnA w3 V.heap.size 1 v3 (0 + m.names.length) ([] ++ m.names.map Value.string) → Mod (fun k => some k = (Value.slice none 0 0).ownBlock) V w3 →
      ∃ a3 d3 w4, v3 = .slice a3 m.names.length d3 ∧ w3.setCell ⟨w.heap.size, 12, none⟩ (.slice a3 m.names.length d3) = w4 ∧ w3.frozen? ⟨w.heap.size, 12, none⟩ = false ∧ w3.cell? ⟨w.heap.size, 12, none⟩ = some (.slice an m.names.length cn) ∧
        w4.cell? ⟨w.heap.size, 16, none⟩ = some (.slice aq m.qids.length cq) ∧ Hid (w4.heap[w.heap.size]? = some (msgO m (.slice a3 m.names.length d3) (.slice aq m.qids.length cq))) ∧ Hid (w4.heap[W.heap.size]? = some (msgO Msg.zero (.slice none 0 0) (.slice none 0 0))) ∧
        Hid (Mod (fun _ => False) w w4) ∧ Hid (OwnA w4 V.heap.size 1 (.slice a3 m.names.length d3) m.names.length (m.names.map Value.string)) ∧ Hid (V.heap.size ≤ w4.heap.size) ∧
        Hid (Src Tryz.prog 3 29 (.slice aq m.qids.length cq) m.qids.length (flatR Qd.cells m.qids) w4) := by
    intro v3 w3 hown3 hgrow3
    have g3 : Mod (fun _ => False) V w3 := (Mod.refl _ V).trans' hgrow3 (fun k _ x => by cases x)
    have hb3 := (g3.block _ (lt_of hb1) (fun x => x)).trans hb1
    rw [List.nil_append, Nat.zero_add] at hown3
    have hs3 := hown3.slAt.form
    rw [List.length_map] at hs3
    obtain ⟨a3, d3, rfl, _, _⟩ := hs3
    have m4 : Mod (· = w.heap.size) w3 (w3.setCell ⟨w.heap.size, 12, none⟩ (.slice a3 m.names.length d3)) := Mod.set1 _ _ _ _
    have hb4 := heap_set hb3 12 (.slice a3 m.names.length d3)
    have M4 := ((m0.trans m1).trans g3).trans' m4 fun k hk e => by omega
    exact ⟨a3, d3, _, rfl, rfl, free_of hb3 12, (cell_of hb3 12).trans rfl, (cell_of hb4 16).trans rfl, hb4, (m4.block _ (Nat.lt_of_lt_of_le (lt_of hz) g3.size) (by omega)).trans ((g3.block _ (lt_of hz) (fun x => x)).trans hz), M4,
      hown3.mod m4 fun k hk e => (by omega), Nat.le_trans g3.size m4.size, src_recs Tryz.underlying29 (by decide) qd_len (fun q u hu => by simp only [Qd.cells, List.mem_cons, List.not_mem_nil, or_false] at hu; rcases hu with rfl | rfl | rfl <;> rfl) (hq0.mod M4 fun _ _ _ x => x) rfl⟩
  have F5 : ∀ a3 d3 w4 v5 w5, w4.heap[w.heap.size]? = some (msgO m (.slice a3 m.names.length d3) (.slice aq m.qids.length cq)) → w4.heap[W.heap.size]? = some (msgO Msg.zero (.slice none 0 0) (.slice none 0 0)) → Mod (fun _ => False) w w4 → OwnA w4 V.heap.size 1 (.slice a3 m.names.length d3) m.names.length (m.names.map Value.string) → V.heap.size ≤ w4.heap.size →
      OwnA w5 w4.heap.size 3 v5 (0 + m.qids.length) ([] ++ flatR Qd.cells m.qids) → Mod (fun k => some k = (Value.slice none 0 0).ownBlock) w4 w5 →
      ∃ a5 d5 w6, v5 = .slice a5 m.qids.length d5 ∧ w5.setCell ⟨w.heap.size, 16, none⟩ (.slice a5 m.qids.length d5) = w6 ∧ w5.frozen? ⟨w.heap.size, 16, none⟩ = false ∧ w5.cell? ⟨w.heap.size, 16, none⟩ = some (.slice aq m.qids.length cq) ∧
        Hid (w6.heap[w.heap.size]? = some (msgO m (.slice a3 m.names.length d3) (.slice a5 m.qids.length d5))) ∧ Hid (w6.heap[w.heap.size + 1]? = some (msgO Msg.zero (.slice none 0 0) (.slice none 0 0))) ∧
        Hid (Mod (fun _ => False) w w6) ∧ Hid (OwnA w6 V.heap.size 1 (.slice a3 m.names.length d3) m.names.length (m.names.map Value.string)) ∧ Hid (RecsAt Qd.cells 3 w6 (w4.heap.size ≤ ·) (.slice a5 m.qids.length d5) m.qids) := by
    intro a3 d3 w4 v5 w5 hb4 hz4 M4 hn4 hV4 hown5 hgrow5
    have g5 : Mod (fun _ => False) w4 w5 := (Mod.refl _ w4).trans' hgrow5 (fun k _ x => by cases x)
    have hb5 := (g5.block _ (lt_of hb4) (fun x => x)).trans hb4
    rw [List.nil_append] at hown5
    have hr5 := OwnA.recs (cs := Qd.cells) (sz := 3) (by decide) (fun _ => rfl) (l := m.qids) hown5
    obtain ⟨a5, d5, rfl, _, _⟩ := hr5.form
    have m6 : Mod (· = w.heap.size) w5 (w5.setCell ⟨w.heap.size, 16, none⟩ (.slice a5 m.qids.length d5)) := Mod.set1 _ _ _ _
    have hz6 := (m6.block _ (Nat.lt_of_lt_of_le (lt_of hz4) g5.size) (by omega)).trans ((g5.block _ (lt_of hz4) (fun x => x)).trans hz4)
    rw [hsz] at hz6
    exact ⟨a5, d5, _, rfl, rfl, free_of hb5 16, (cell_of hb5 16).trans rfl, heap_set hb5 16 _, hz6, (M4.trans g5).trans' m6 fun k hk e => (by omega), (hn4.mod g5 fun _ _ x => x).mod m6 fun k hk e => (by omega), hr5.mod m6 fun g hg _ e => (by omega)⟩
  have D1 : Hid ((0 + m.qids.length) * 16 ≤ 140737488355328) := by show _ ≤ _; omega
  have D2 : Hid (0 + m.qids.length ≤ 9223372036854775807) := by show _ ≤ _; omega
  clear hb hb1 hz m0 m1 hn hq hn1 hq1 hV hq0
  go_enter Tryz.func16, Tryz.ntmps16
  go_upto_region 2 with (refine wpl_append rfl (.const (.slice none 0 0)) (.tmp 4) _ _ rfl V.heap.size 9 (.string { data := #[] }) 1 16 Tryz.underlying25 info_str rfl (by decide) (.slice none 0 0) 0 [] rfl (OwnA.nil V V.heap.size 1) _ _ _ rfl C5.out C1.out C2.out (Nat.le_refl _) ?_; intro v3 w3 hown3 hgrow3; obtain ⟨a3, d3, w4, rfl, hw4, x12, y12, c16, hb4, hz4, M4, hn4, hV4, D5⟩ := F3 _ _ hown3 hgrow3; clear hown3 hgrow3 F3 c12 hV' hW)
  clear hw4 x12 y12
  go_upto_region 3 with (refine wpl_append rfl (.const (.slice none 0 0)) (.tmp 8) _ _ rfl w4.heap.size 28 (.agg #[.int .u8 0, .int .u32 0, .int .u64 0]) 3 16 Tryz.underlying29 info_qid rfl (by decide) (.slice none 0 0) 0 [] rfl (OwnA.nil w4 w4.heap.size 3) _ _ _ rfl D5.out D1.out D2.out (Nat.le_refl _) ?_; intro v5 w5 hown5 hgrow5; have hlt4 := hn4.out.lt; obtain ⟨a5, d5, w6, rfl, hw6, x16, y16, hb6, HZ6, M6, HN6, HQ6⟩ := F5 _ _ _ _ _ hb4.out hz4.out M4.out hn4.out hV4.out hown5 hgrow5; clear hown5 hgrow5 F5 c16)
  clear hw6 x16 y16 D5 hn4 M4 hz4 hb4
  have hvn : (Value.slice a3 m.names.length d3).oneCell' = true := rfl
  have hvq : (Value.slice a5 m.qids.length d5).oneCell' = true := rfl
  have hV4o : V.heap.size ≤ w4.heap.size := hV4.out
  generalize Value.slice a3 m.names.length d3 = vn3 at *
  generalize Value.slice a5 m.qids.length d5 = vq5 at *
  have hrg : w6.rangeAt w.heap.size 0 (m.cells vn3 vq5) := fun j u hu => by rw [Nat.zero_add, cell_of hb6.out, List.getElem?_toArray]; exact hu
  refine wp_region_lit ?_
  refine wpList_load_mid rfl 33 (.tmp 1) rfl w.heap.size 0 rfl (m.cells vn3 vq5) _ hrg Tryz.underlying33 rfl (by kernel_rfl) ?_
  refine wpl_store_row rfl 33 (.tmp 2) (.tmp 11) rfl rfl (w.heap.size + 1) (m.cells vn3 vq5) rfl rfl 33 _ HZ6.out rfl (msg_one _ _ _ hvn hvq) (by kernel_rfl) ?_
  intro U hv2 mv
  refine wpList_nil ?_
  have hrgU : U.rangeAt (w.heap.size + 1) 0 (m.cells vn3 vq5) := fun j u hu => by rw [Nat.zero_add, cell_of hv2, List.getElem?_toArray]; exact hu
  go_wp2
  refine bodyPost_ret (results_row1 rfl _ _ U (w.heap.size + 1) _ _ rfl hrgU Tryz.underlying33 rfl (by kernel_rfl)) rfl ⟨vn3, vq5, w4.heap.size, rfl, (HN6.out.mod mv fun k hk e => by omega).mono (by omega), fun k hk => (hlt4 k hk).2, HQ6.out.mod mv fun g hg _ e => by omega, M6.out.trans' mv fun k hk e => by omega⟩
theorem OwnA.set {w : World} {base g n cap j : Nat} {xs : List Value} {u : Value} (h : OwnA w base 1 (.slice (some ⟨g, 0, none⟩) n cap) n xs) (hj : j < n) : OwnA (w.setCell ⟨g, j, none⟩ u) base 1 (.slice (some ⟨g, 0, none⟩) n cap) n (xs.set j u) := by
  refine ⟨by rw [List.length_set]; exact h.1, ?_⟩
  rcases h.2 with ⟨h2, _⟩ | ⟨g', cap', h1, h2, h3, h4, h5, h6, h7⟩
  · cases h2
  · injection h1 with e1 e2 e3
    injection e1 with e1
    injection e1 with e1
    subst e1 e3
    have hxl : xs.length = n := by have := h.1; omega
    refine .inr ⟨g, cap, rfl, h2, by rw [World.size_setCell]; exact h3, h4, fun i hi => ?_, fun i hi => by rw [World.frozen?_setCell]; exact h6 i hi, fun i v hi => ?_⟩
    · by_cases e : i = j
      · subst e
        rw [World.cell?_setCell_same' _ _ _ (h5 i hi)]
        rfl
      · rw [World.cell?_setCell_other (w := w) (a := ⟨g, j, none⟩) (b := ⟨g, i, none⟩) (v := u) (h := by intro x; injection x with _ x; exact e x.symm)]
        exact h5 i hi
    · by_cases e : i = j
      · subst e
        rw [List.getElem?_set_self (by omega)] at hi
        rw [World.cell?_setCell_same' _ _ _ (h5 i (by omega))]
        exact hi
      · rw [List.getElem?_set_ne (fun x => e x.symm)] at hi
        rw [World.cell?_setCell_other (w := w) (a := ⟨g, j, none⟩) (b := ⟨g, i, none⟩) (v := u) (h := by intro x; injection x with _ x; exact e x.symm)]
        exact h7 i v hi
theorem OwnA.at {w : World} {base g n cap : Nat} {xs : List Value} (h : OwnA w base 1 (.slice (some ⟨g, 0, none⟩) n cap) n xs) {j : Nat} (hj : j < n) : w.frozen? ⟨g, j, none⟩ = false ∧ (∀ u, xs[j]? = some u → w.cell? ⟨g, j, none⟩ = some u) ∧ g < w.heap.size ∧ base ≤ g := by
  rcases h.2 with ⟨h2, _⟩ | ⟨g', cap', h1, h2, h3, h4, h5, h6, h7⟩
  · cases h2
  · injection h1 with e1 e2 e3
    injection e1 with e1
    injection e1 with e1
    subst e1 e3
    exact ⟨h6 j (by omega), fun u hu => h7 j u hu, h3, h2⟩
end Go.Proofs.YtklpopmjpgdjnaaGreatDoor
