/- The law's long and copied. -/
import Derived.Test.YtklpopmjpgdjnaaGreatDoorQEncode
import Derived.Test.YtklpopmjpgdjnaaGreatDoorQPenRQ
import Derived.Test.YtklpopmjpgdjnaaGreatDoorQPenRL
set_option linter.unusedVariables false
set_option linter.unusedSimpArgs false
namespace Go.Proofs.YtklpopmjpgdjnaaGreatDoor
open Go.RowKit


/-- sizes of a message that memory may hold -/
structure Msg.Reach (m : Msg) : Prop where
  version : m.version.size ≤ 140737488355328
  uname : m.uname.size ≤ 140737488355328
  aname : m.aname.size ≤ 140737488355328
  ename : m.ename.size ≤ 140737488355328
  name : m.name.size ≤ 140737488355328
  data : m.data.size ≤ 140737488355328
  st : m.stat.n.size ≤ 140737488355328 ∧ m.stat.u.size ≤ 140737488355328 ∧ m.stat.g.size ≤ 140737488355328 ∧ m.stat.m.size ≤ 140737488355328
  names : ∀ s ∈ m.names, s.size ≤ 140737488355328
  nl : m.names.length ≤ 140737488355328
  ql : m.qids.length ≤ 140737488355328
def sumL (l : List ByteArray) : Nat := (l.map (·.size)).sum
def Msg.base (m : Msg) : Nat := m.version.size + m.uname.size + m.aname.size + m.ename.size + m.name.size + m.data.size + m.stat.n.size + m.stat.u.size + m.stat.g.size + m.stat.m.size
def longM (m : Msg) : Bool := decide (262144 < m.base + sumL (m.names.take 300)) || (decide (300 < m.names.length) || decide (1000 < m.qids.length))
theorem sumL_snoc (l : List ByteArray) (s : ByteArray) : sumL (l ++ [s]) = sumL l + s.size := by simp [sumL]
theorem sumL_mem {l : List ByteArray} {s : ByteArray} (h : s ∈ l) : s.size ≤ sumL l := by
  induction l with
  | nil => cases h
  | cons a l ih =>
    have : sumL (a :: l) = a.size + sumL l := by simp [sumL]
    rw [this]
    rcases List.mem_cons.1 h with rfl | h
    · omega
    · have := ih h; omega
theorem sumL_le {l : List ByteArray} {b : Nat} (h : ∀ s ∈ l, s.size ≤ b) : sumL l ≤ l.length * b := by
  induction l with
  | nil => exact Nat.zero_le _
  | cons a l ih =>
    have h1 : sumL (a :: l) = a.size + sumL l := by simp [sumL]
    have h2 := h a (List.mem_cons_self ..)
    have h3 := ih (fun s hs => h s (List.mem_cons_of_mem _ hs))
    rw [h1, List.length_cons, Nat.succ_mul]
    omega
theorem longM_small {m : Msg} (h : longM m = false) : m.Small := by
  unfold longM at h
  simp only [Bool.or_eq_false_iff, decide_eq_false_iff_not] at h
  obtain ⟨h1, h2, h3⟩ := h
  rw [List.take_of_length_le (by omega)] at h1
  unfold Msg.base at h1
  refine ⟨by omega, by omega, by omega, by omega, by omega, by omega, ⟨by omega, by omega, by omega, by omega⟩, fun s hs => ?_, by omega, by omega⟩
  have := sumL_mem hs
  omega
set_option maxHeartbeats 4000000 in
set_option maxRecDepth 100000 in
theorem long_any (m : Msg) (vn vq : Value) (P : Nat → Prop) (w : World) (hr : m.Reach) (hn : SlAt w P vn (m.names.map .string)) (hq : RecsAt Qd.cells 3 w P vq m.qids) :
    Calls Tryz.prog 14 #[.agg (m.cells vn vq).toArray] w fun e w' => e = .returned (.bool (longM m)) ∧ Mod (fun _ => False) w w' := by
  obtain ⟨W, hW⟩ : ∃ W, w.alloc (.cells (m.cells vn vq).toArray 33) = W := ⟨_, rfl⟩
  have hb : W.heap[w.heap.size]? = some (msgO m vn vq) := by subst hW; exact new_at _ _
  have m0 : Mod (fun _ => False) w W := by subst hW; exact (Mod.refl _ w).alloc _
  obtain ⟨an, cn, rfl, hcn, hvx⟩ := (hn.mod m0 (fun _ _ _ x => x)).form
  obtain ⟨aq, cq, rfl, hcq, _⟩ := hq.form
  rw [List.length_map] at hb hW hcn ⊢
  have c3 : W.cell? ⟨w.heap.size, 3, none⟩ = some (.string m.version) := (cell_of hb 3).trans rfl
  have c8 : W.cell? ⟨w.heap.size, 8, none⟩ = some (.string m.uname) := (cell_of hb 8).trans rfl
  have c9 : W.cell? ⟨w.heap.size, 9, none⟩ = some (.string m.aname) := (cell_of hb 9).trans rfl
  have c10 : W.cell? ⟨w.heap.size, 10, none⟩ = some (.string m.ename) := (cell_of hb 10).trans rfl
  have c11 : W.cell? ⟨w.heap.size, 11, none⟩ = some (.string m.name) := (cell_of hb 11).trans rfl
  have c22 : W.cell? ⟨w.heap.size, 22, none⟩ = some (.string m.data) := (cell_of hb 22).trans rfl
  have c12 : W.cell? ⟨w.heap.size, 12, none⟩ = some (.slice an m.names.length cn) := (cell_of hb 12).trans rfl
  have c16 : W.cell? ⟨w.heap.size, 16, none⟩ = some (.slice aq m.qids.length cq) := (cell_of hb 16).trans rfl
  have c32 : W.cell? ⟨w.heap.size, 32, none⟩ = some (.string m.stat.n) := (cell_of hb 32).trans rfl
  have c33 : W.cell? ⟨w.heap.size, 33, none⟩ = some (.string m.stat.u) := (cell_of hb 33).trans rfl
  have c34 : W.cell? ⟨w.heap.size, 34, none⟩ = some (.string m.stat.g) := (cell_of hb 34).trans rfl
  have c35 : W.cell? ⟨w.heap.size, 35, none⟩ = some (.string m.stat.m) := (cell_of hb 35).trans rfl
  obtain ⟨r0, r1, r2, r3, r4, r5, ⟨r6, r7, r8, r9⟩, hrn, rnl, rql⟩ := hr
  have HV : Hid (longM m = (decide (262144 < m.base + sumL (m.names.take 300)) || (decide (300 < m.names.length) || decide (1000 < m.qids.length)))) := rfl
  have hB : (m.version.size : Int) + m.uname.size + m.aname.size + m.ename.size + m.name.size + m.data.size + m.stat.n.size + m.stat.u.size + m.stat.g.size + m.stat.m.size = (m.base : Int) := by unfold Msg.base; omega
  have hBl : m.base ≤ 1407374883553280 := by unfold Msg.base; omega
  have M0 := Lib.hid m0
  clear hb m0 hn hq
  go_enter Tryz.func14, Tryz.ntmps14
  go_wp2
  clear c3 c8 c9 c10 c11 c22 c32 c33 c34 c35 hW
  go_loopw [3, 4] (fun v i wr => ∃ j : Nat, (j ≤ m.names.length ∧ j ≤ 300) ∧ i = .int .i64 j ∧ v = .int .i64 ((m.base + sumL (m.names.take j) : Nat) : Int) ∧ wr = W) (fun _ i _ => m.names.length - (intOf i).toNat)
  case atStart => exact ⟨0, ⟨Nat.zero_le _, by omega⟩, rfl, by simp only [List.take_zero]; rw [show sumL [] = 0 from rfl, Nat.add_zero, ← hB], rfl⟩
  case round =>
    obtain ⟨j, ⟨hj, hj3⟩, rfl, rfl, rfl⟩ := hrel
    have hS : sumL (m.names.take j) ≤ 300 * 140737488355328 := Nat.le_trans (sumL_le (b := 140737488355328) fun s hs => hrn s (List.mem_of_mem_take hs)) (Nat.mul_le_mul_right _ (by rw [List.length_take]; omega))
    by_cases hjl : j < m.names.length
    · have t1 : decide ((j : Int) < (m.names.length : Int)) = true := by simp; omega
      by_cases hj4 : j < 300
      · have t2 : decide ((j : Int) < 300) = true := by simp; omega
        obtain ⟨g, off, rfl, hg, hgl, hc⟩ := hvx j _ (strs_get hjl)
        have j1 : (0 : Int) ≤ (j : Int) := by omega
        have j2 : (j : Int) < (m.names.length : Int) := by omega
        have hsz := hrn _ (List.getElem_mem hjl)
        have HS : Hid (m.base + sumL (m.names.take (j + 1)) = (m.base + sumL (m.names.take j)) + m.names[j].size) := by
          show _ = _
          rw [List.take_succ_eq_append_getElem hjl, sumL_snoc, Nat.add_assoc]
        generalize m.names[j] = s at *
        have hX : m.base + sumL (m.names.take j) ≤ 1407374883553280 + 300 * 140737488355328 := by omega
        clear hS
        generalize m.base + sumL (m.names.take j) = X at *
        clear HV
        go_wp2
        go_roundw
        case rel => exact ⟨j + 1, ⟨hjl, by omega⟩, by go_num, by rw [HS.out]; go_num, trivial⟩
        case measure => simp [intOf]; omega
      · have t2 : decide ((j : Int) < 300) = false := by simp; omega
        obtain rfl : j = 300 := by omega
        clear hvx
        have q2 : decide (300 < (m.names.length : Int)) = true := by simp; omega
        have HF : Hid (longM m = true) := by show _ = _; rw [HV.out, decide_eq_true hjl, Bool.true_or, Bool.or_true]
        clear HV hB
        generalize m.base + sumL (m.names.take 300) = X at *
        by_cases p1 : 262144 < X
        · have q1 : decide (262144 < (X : Int)) = true := by simp; omega
          go_wp2
          go_ret
          exact ⟨by rw [HF.out]; rfl, M0.out⟩
        · have q1 : decide (262144 < (X : Int)) = false := by simp; omega
          go_wp2
          go_ret
          exact ⟨by rw [HF.out]; rfl, M0.out⟩
    · have t1 : decide ((j : Int) < (m.names.length : Int)) = false := by simp; omega
      have HE : m.names.take 300 = m.names.take j := by rw [List.take_of_length_le (by omega), List.take_of_length_le (by omega)]
      clear hvx
      rw [HE] at HV
      generalize m.base + sumL (m.names.take j) = X at *
      by_cases p1 : 262144 < X
      · have q1 : decide (262144 < (X : Int)) = true := by simp; omega
        have HF : Hid (longM m = true) := by show _ = _; rw [HV.out, decide_eq_true p1]; rfl
        go_wp2
        go_ret
        exact ⟨by rw [HF.out]; rfl, M0.out⟩
      have q1 : decide (262144 < (X : Int)) = false := by simp; omega
      have p2 : ¬ 300 < m.names.length := by omega
      have q2 : decide (300 < (m.names.length : Int)) = false := by simp; omega
      by_cases p3 : 1000 < m.qids.length
      · have q3 : decide (1000 < (m.qids.length : Int)) = true := by simp; omega
        have HF : Hid (longM m = true) := by show _ = _; rw [HV.out, decide_eq_true p3, Bool.or_true, Bool.or_true]
        go_wp2
        go_ret
        exact ⟨by rw [HF.out]; rfl, M0.out⟩
      have q3 : decide (1000 < (m.qids.length : Int)) = false := by simp; omega
      have HF : Hid (longM m = false) := by show _ = _; rw [HV.out, decide_eq_false p1, decide_eq_false p2, decide_eq_false p3]; rfl
      go_wp2
      go_ret
      exact ⟨by rw [HF.out]; rfl, M0.out⟩
theorem results_row1 {fn : Func} {a : Tmp} {ty : TypeId} (h : fn.results = #[.cell a ty]) (tmps : Array Value) (P : Program) (w : World) (b : Nat) (cs : List Value) (d : TypeDesc) (ha : tmps.getD a undef = .pointer (some ⟨b, 0, none⟩))
    (hc : w.rangeAt b 0 cs) (hu : P.underlying ty = some d) (hd : d.isRow = true) (hi : (P.info? ty).map (·.size) = some cs.length) :
    (results fn tmps).run P w = .ok (.agg cs.toArray) w := by
  have hl := run_loadVar_mid w b 0 ty cs d hc hu hd hi
  have ha' : tmps[a]?.getD undef = .pointer (some ⟨b, 0, none⟩) := by simpa using ha
  simp [results, h, ha', asAddr, hl]
set_option maxHeartbeats 4000000 in
set_option maxRecDepth 100000 in
theorem copied_any (m : Msg) (vn vq : Value) (P : Nat → Prop) (w : World) (hnl : m.names.length ≤ 1000000) (hql : m.qids.length ≤ 1000000) (hn : SlAt w P vn (m.names.map .string)) (hq : RecsAt Qd.cells 3 w P vq m.qids) :
    Calls Tryz.prog 16 #[.agg (m.cells vn vq).toArray] w fun e w' => ∃ vn' vq', e = .returned (.agg (m.cells vn' vq').toArray) ∧ SlAt w' (w.heap.size ≤ ·) vn' (m.names.map .string) ∧ RecsAt Qd.cells 3 w' (w.heap.size ≤ ·) vq' m.qids ∧ Mod (fun _ => False) w w' := by
  obtain ⟨W, hW⟩ : ∃ W, w.alloc (.cells (m.cells vn vq).toArray 33) = W := ⟨_, rfl⟩
  have hb : W.heap[w.heap.size]? = some (msgO m vn vq) := by subst hW; exact new_at _ _
  have m0 : Mod (fun _ => False) w W := by subst hW; exact (Mod.refl _ w).alloc _
  obtain ⟨V, hV⟩ : ∃ V, W.alloc (msgO Msg.zero (.slice none 0 0) (.slice none 0 0)) = V := ⟨_, rfl⟩
  have hz : V.heap[W.heap.size]? = some (msgO Msg.zero (.slice none 0 0) (.slice none 0 0)) := by subst hV; exact new_at _ _
  have m1 : Mod (fun _ => False) W V := by subst hV; exact (Mod.refl _ W).alloc _
  have hsz : W.heap.size = w.heap.size + 1 := by subst hW; simp
  have hb1 := (m1.block _ (lt_of hb) (fun x => x)).trans hb
  have hn1 := hn.mod (m0.trans m1) (fun _ _ _ x => x)
  have hq1 := hq.mod (m0.trans m1) (fun _ _ _ x => x)
  obtain ⟨an, cn, rfl, hcn, _⟩ := hn1.form
  obtain ⟨aq, cq, rfl, hcq, _⟩ := hq1.form
  rw [List.length_map] at *
  have hV' : W.alloc (.cells #[.int .u8 0, .int .u16 0, .int .u32 0, .string { data := #[] }, .int .u32 0, .int .u32 0, .int .u32 0, .int .u16 0, .string { data := #[] }, .string { data := #[] }, .string { data := #[] }, .string { data := #[] }, .slice none 0 0, .int .u8 0, .int .u32 0, .int .u64 0, .slice none 0 0, .int .u8 0, .int .u32 0, .int .u32 0, .int .u64 0, .int .u32 0, .string { data := #[] }, .int .u16 0, .int .u32 0, .int .u8 0, .int .u32 0, .int .u64 0, .int .u32 0, .int .u32 0, .int .u32 0, .int .u64 0, .string { data := #[] }, .string { data := #[] }, .string { data := #[] }, .string { data := #[] }] 33) = V := hV
  have c12 : V.cell? ⟨w.heap.size, 12, none⟩ = some (.slice an m.names.length cn) := (cell_of hb1 12).trans rfl
  have C1 : Hid ((0 + m.names.length) * 16 ≤ 140737488355328) := by show _ ≤ _; omega
  have C2 : Hid (0 + m.names.length ≤ 9223372036854775807) := by show _ ≤ _; omega
  have C5 : Hid (Src Tryz.prog 1 25 (.slice an m.names.length cn) m.names.length (m.names.map Value.string) V) := src_slAt Tryz.underlying25 hn1 (by rw [List.length_map]) (by intro u hu; obtain ⟨y, _, rfl⟩ := List.mem_map.1 hu; rfl)
  have hq0 := hq
  have hVw : w.heap.size < V.heap.size := lt_of hb1
  have hVW : W.heap.size < V.heap.size := lt_of hz
  have F3 : ∀ v3 w3, OwnA w3 V.heap.size 1 v3 (0 + m.names.length) ([] ++ m.names.map Value.string) → Mod (fun k => some k = (Value.slice none 0 0).ownBlock) V w3 →
      ∃ a3 d3 w4, v3 = .slice a3 m.names.length d3 ∧ w3.setCell ⟨w.heap.size, 12, none⟩ (.slice a3 m.names.length d3) = w4 ∧ w3.frozen? ⟨w.heap.size, 12, none⟩ = false ∧ w3.cell? ⟨w.heap.size, 12, none⟩ = some (.slice an m.names.length cn) ∧
        w4.cell? ⟨w.heap.size, 16, none⟩ = some (.slice aq m.qids.length cq) ∧ Hid (w4.heap[w.heap.size]? = some (msgO m (.slice a3 m.names.length d3) (.slice aq m.qids.length cq))) ∧ Hid (w4.heap[W.heap.size]? = some (msgO Msg.zero (.slice none 0 0) (.slice none 0 0))) ∧
        Hid (Mod (fun _ => False) w w4) ∧ Hid (SlAt w4 (V.heap.size ≤ ·) (.slice a3 m.names.length d3) (m.names.map .string)) ∧ Hid (V.heap.size ≤ w4.heap.size) ∧
        Hid (Src Tryz.prog 3 29 (.slice aq m.qids.length cq) m.qids.length (flatR Qd.cells m.qids) w4) := by
    intro v3 w3 hown3 hgrow3
    have g3 : Mod (fun _ => False) V w3 := (Mod.refl _ V).trans' hgrow3 (fun k _ x => by cases x)
    have hb3 := (g3.block _ (lt_of hb1) (fun x => x)).trans hb1
    have hs3 := hown3.slAt
    rw [List.nil_append] at hs3
    obtain ⟨a3, d3, rfl, _, _⟩ := hs3.form
    rw [List.length_map] at *
    have m4 : Mod (· = w.heap.size) w3 (w3.setCell ⟨w.heap.size, 12, none⟩ (.slice a3 m.names.length d3)) := Mod.set1 _ _ _ _
    have hb4 := heap_set hb3 12 (.slice a3 m.names.length d3)
    have M4 := ((m0.trans m1).trans g3).trans' m4 fun k hk e => by omega
    exact ⟨a3, d3, _, rfl, rfl, free_of hb3 12, (cell_of hb3 12).trans rfl, (cell_of hb4 16).trans rfl, hb4, (m4.block _ (Nat.lt_of_lt_of_le (lt_of hz) g3.size) (by omega)).trans ((g3.block _ (lt_of hz) (fun x => x)).trans hz), M4,
      hs3.mod m4 fun g hg _ e => (by omega), Nat.le_trans g3.size m4.size, src_recs Tryz.underlying29 (by decide) qd_len (fun q u hu => by simp only [Qd.cells, List.mem_cons, List.not_mem_nil, or_false] at hu; rcases hu with rfl | rfl | rfl <;> rfl) (hq0.mod M4 fun _ _ _ x => x) rfl⟩
  have F5 : ∀ a3 d3 w4 v5 w5, w4.heap[w.heap.size]? = some (msgO m (.slice a3 m.names.length d3) (.slice aq m.qids.length cq)) → w4.heap[W.heap.size]? = some (msgO Msg.zero (.slice none 0 0) (.slice none 0 0)) → Mod (fun _ => False) w w4 → SlAt w4 (V.heap.size ≤ ·) (.slice a3 m.names.length d3) (m.names.map .string) → V.heap.size ≤ w4.heap.size →
      OwnA w5 w4.heap.size 3 v5 (0 + m.qids.length) ([] ++ flatR Qd.cells m.qids) → Mod (fun k => some k = (Value.slice none 0 0).ownBlock) w4 w5 →
      ∃ a5 d5 w6, v5 = .slice a5 m.qids.length d5 ∧ w5.setCell ⟨w.heap.size, 16, none⟩ (.slice a5 m.qids.length d5) = w6 ∧ w5.frozen? ⟨w.heap.size, 16, none⟩ = false ∧ w5.cell? ⟨w.heap.size, 16, none⟩ = some (.slice aq m.qids.length cq) ∧
        Hid (w6.heap[w.heap.size]? = some (msgO m (.slice a3 m.names.length d3) (.slice a5 m.qids.length d5))) ∧ Hid (w6.heap[w.heap.size + 1]? = some (msgO Msg.zero (.slice none 0 0) (.slice none 0 0))) ∧
        Hid (Mod (fun _ => False) w w6) ∧ Hid (SlAt w6 (V.heap.size ≤ ·) (.slice a3 m.names.length d3) (m.names.map .string)) ∧ Hid (RecsAt Qd.cells 3 w6 (V.heap.size ≤ ·) (.slice a5 m.qids.length d5) m.qids) := by
    intro a3 d3 w4 v5 w5 hb4 hz4 M4 hn4 hV4 hown5 hgrow5
    have g5 : Mod (fun _ => False) w4 w5 := (Mod.refl _ w4).trans' hgrow5 (fun k _ x => by cases x)
    have hb5 := (g5.block _ (lt_of hb4) (fun x => x)).trans hb4
    rw [List.nil_append] at hown5
    have hr5 := OwnA.recs (cs := Qd.cells) (sz := 3) (by decide) (fun _ => rfl) (l := m.qids) hown5
    obtain ⟨a5, d5, rfl, _, _⟩ := hr5.form
    have m6 : Mod (· = w.heap.size) w5 (w5.setCell ⟨w.heap.size, 16, none⟩ (.slice a5 m.qids.length d5)) := Mod.set1 _ _ _ _
    have hz6 := (m6.block _ (Nat.lt_of_lt_of_le (lt_of hz4) g5.size) (by omega)).trans ((g5.block _ (lt_of hz4) (fun x => x)).trans hz4)
    rw [hsz] at hz6
    exact ⟨a5, d5, _, rfl, rfl, free_of hb5 16, (cell_of hb5 16).trans rfl, heap_set hb5 16 _, hz6, (M4.trans g5).trans' m6 fun k hk e => (by omega), (hn4.mod g5 fun _ _ _ x => x).mod m6 fun g hg _ e => (by omega), (hr5.mod m6 fun g hg _ e => (by omega)).imp fun g hg => Nat.le_trans hV4 hg⟩
  have D1 : Hid ((0 + m.qids.length) * 16 ≤ 140737488355328) := by show _ ≤ _; omega
  have D2 : Hid (0 + m.qids.length ≤ 9223372036854775807) := by show _ ≤ _; omega
  clear hb hb1 hz m0 m1 hn hq hn1 hq1 hV hq0
  go_enter Tryz.func16, Tryz.ntmps16
  go_upto_region 2 with (refine wpl_append rfl (.const (.slice none 0 0)) (.tmp 4) _ _ rfl V.heap.size 9 (.string { data := #[] }) 1 16 Tryz.underlying25 info_str rfl (by decide) (.slice none 0 0) 0 [] rfl (OwnA.nil V V.heap.size 1) _ _ _ rfl C5.out C1.out C2.out (Nat.le_refl _) ?_; intro v3 w3 hown3 hgrow3; obtain ⟨a3, d3, w4, rfl, hw4, x12, y12, c16, hb4, hz4, M4, hn4, hV4, D5⟩ := F3 _ _ hown3 hgrow3; clear hown3 hgrow3 F3 c12 hV' hW)
  clear hw4 x12 y12
  go_upto_region 3 with (refine wpl_append rfl (.const (.slice none 0 0)) (.tmp 8) _ _ rfl w4.heap.size 28 (.agg #[.int .u8 0, .int .u32 0, .int .u64 0]) 3 16 Tryz.underlying29 info_qid rfl (by decide) (.slice none 0 0) 0 [] rfl (OwnA.nil w4 w4.heap.size 3) _ _ _ rfl D5.out D1.out D2.out (Nat.le_refl _) ?_; intro v5 w5 hown5 hgrow5; obtain ⟨a5, d5, w6, rfl, hw6, x16, y16, hb6, HZ6, M6, HN6, HQ6⟩ := F5 _ _ _ _ _ hb4.out hz4.out M4.out hn4.out hV4.out hown5 hgrow5; clear hown5 hgrow5 F5 c16)
  clear hw6 x16 y16 D5 hn4 M4 hz4 hb4
  have hvn : (Value.slice a3 m.names.length d3).oneCell' = true := rfl
  have hvq : (Value.slice a5 m.qids.length d5).oneCell' = true := rfl
  generalize Value.slice a3 m.names.length d3 = vn3 at *
  generalize Value.slice a5 m.qids.length d5 = vq5 at *
  have hrg : w6.rangeAt w.heap.size 0 (m.cells vn3 vq5) := fun j u hu => by rw [Nat.zero_add, cell_of hb6.out, List.getElem?_toArray]; exact hu
  refine wp_region_lit ?_
  refine wpList_load_mid rfl 33 (.tmp 1) rfl w.heap.size 0 rfl (m.cells vn3 vq5) _ hrg Tryz.underlying33 rfl (by kernel_rfl) ?_
  refine wpl_store_row rfl 33 (.tmp 2) (.tmp 11) rfl rfl (w.heap.size + 1) (m.cells vn3 vq5) rfl rfl 33 _ HZ6.out rfl (msg_one _ _ _ hvn hvq) (by kernel_rfl) ?_
  intro U hv2 mv
  refine wpList_nil ?_
  have hrgU : U.rangeAt (w.heap.size + 1) 0 (m.cells vn3 vq5) := fun j u hu => by rw [Nat.zero_add, cell_of hv2, List.getElem?_toArray]; exact hu
  go_wp2
  refine bodyPost_ret (results_row1 rfl _ _ U (w.heap.size + 1) _ _ rfl hrgU Tryz.underlying33 rfl (by kernel_rfl)) rfl ⟨vn3, vq5, rfl, ?_, ?_, M6.out.trans' mv fun k hk e => by omega⟩
  · exact (HN6.out.mod mv fun g hg _ e => by omega).imp fun g hg => by omega
  · exact (HQ6.out.mod mv fun g hg _ e => by omega).imp fun g hg => by omega
end Go.Proofs.YtklpopmjpgdjnaaGreatDoor
