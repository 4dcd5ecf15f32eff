/- Package wire's plain: are all texts such as may be? -/
import Derived.Test.YtklpopmjpgdjnaaGreatDoorQGe
import Derived.Test.YtklpopmjpgdjnaaGreatDoorShelf
set_option linter.unusedVariables false
set_option linter.unusedSimpArgs false
namespace Go.Proofs.YtklpopmjpgdjnaaGreatDoor
open Go.RowKit Go.Shelf

/-- the library's tables lie there -/
def Tabs (w : World) : Prop := Lib.Utf8Tabs (Tryz.lays196_ren.g 3) (Tryz.lays196_ren.g 4) w
theorem Tabs.mod {w w' : World} (h : Tabs w) (hm : Mod (fun _ => False) w w') : Tabs w' := Utf8Tabs_below h hm.below
theorem valid_any (s : ByteArray) (w : World) (hs : s.size ≤ 9223372036854775807) (hT : Tabs w) :
    Calls Tryz.prog 72 #[.string s] w fun e w' => e = .returned (.bool (Lib.validD s.data.toList)) ∧ Mod (fun _ => False) w w' :=
  (Tryz.utf8_ValidString s w hs hT).mono fun _ _ h => ⟨h.1, Mod.of_below h.2⟩
def hasZ (s : ByteArray) : Bool := decide (0 ≤ Lib.indexByte s.data.toList 0)
theorem rune_any (s : ByteArray) (w : World) : Calls Tryz.prog 73 #[.string s, .int .i32 0] w fun e w' => e = .returned (.bool (hasZ s)) ∧ w' = w :=
  Tryz.strings_ContainsRune_ascii s 0 w (by decide) (by decide)
def okT (s : ByteArray) : Bool := Lib.validD s.data.toList && !hasZ s
def Msg.nine (m : Msg) : List ByteArray := [m.version, m.uname, m.aname, m.ename, m.name, m.stat.n, m.stat.u, m.stat.g, m.stat.m]
def plainM (m : Msg) : Bool := m.nine.all okT && m.names.all okT
theorem idx2s (a0 a1 : Option Addr) (n0 n1 k0 k1 : Nat) (w : World) :
    (Instr.index 95 (.agg #[.slice a0 n0 k0, .slice a1 n1 k1]) (.int .i64 0)).run Tryz.prog w = .ok (.slice a0 n0 k0) w ∧ (Instr.index 95 (.agg #[.slice a0 n0 k0, .slice a1 n1 k1]) (.int .i64 1)).run Tryz.prog w = .ok (.slice a1 n1 k1) w := by
  have h := run_underlying (P := Tryz.prog) Tryz.underlying95
  have h9 := Tryz.sizeOf25
  constructor <;> simp [Instr.index, go_sem, h]
set_option maxHeartbeats 4000000 in
set_option maxRecDepth 100000 in
theorem plain_any (m : Msg) (vn vq : Value) (P : Nat → Prop) (w : World) (hs : m.Small) (hn : SlAt w P vn (m.names.map .string)) (hT : Tabs w) :
    Calls Tryz.prog 31 #[.agg (m.cells vn vq).toArray] w fun e w' => e = .returned (.bool (plainM m)) ∧ Mod (fun _ => False) w w' := by
  obtain ⟨W, hW⟩ : ∃ W, w.alloc (.cells (m.cells vn vq).toArray 33) = W := ⟨_, rfl⟩
  have hb : W.heap[w.heap.size]? = some (msgO m vn vq) := by subst hW; exact new_at _ _
  have m0 : Mod (fun _ => False) w W := by subst hW; exact (Mod.refl _ w).alloc _
  obtain ⟨an, cn, rfl, hcn, hvx⟩ := hn.form
  rw [List.length_map] at hb hW hcn ⊢
  have c3 : W.cell? ⟨w.heap.size, 3, none⟩ = some (.string m.version) := (cell_of hb 3).trans rfl
  have c8 : W.cell? ⟨w.heap.size, 8, none⟩ = some (.string m.uname) := (cell_of hb 8).trans rfl
  have c9 : W.cell? ⟨w.heap.size, 9, none⟩ = some (.string m.aname) := (cell_of hb 9).trans rfl
  have c10 : W.cell? ⟨w.heap.size, 10, none⟩ = some (.string m.ename) := (cell_of hb 10).trans rfl
  have c11 : W.cell? ⟨w.heap.size, 11, none⟩ = some (.string m.name) := (cell_of hb 11).trans rfl
  have c12 : W.cell? ⟨w.heap.size, 12, none⟩ = some (.slice an m.names.length cn) := (cell_of hb 12).trans rfl
  have c32 : W.cell? ⟨w.heap.size, 32, none⟩ = some (.string m.stat.n) := (cell_of hb 32).trans rfl
  have c33 : W.cell? ⟨w.heap.size, 33, none⟩ = some (.string m.stat.u) := (cell_of hb 33).trans rfl
  have c34 : W.cell? ⟨w.heap.size, 34, none⟩ = some (.string m.stat.g) := (cell_of hb 34).trans rfl
  have c35 : W.cell? ⟨w.heap.size, 35, none⟩ = some (.string m.stat.m) := (cell_of hb 35).trans rfl
  obtain ⟨V, hV⟩ : ∃ V, W.alloc (.cells (m.nine.map Value.string).toArray 9) = V := ⟨_, rfl⟩
  have hV0 : V.heap[W.heap.size]? = some (.cells (m.nine.map Value.string).toArray 9 (0, 0)) := by subst hV; exact new_at _ _
  have m1 : Mod (fun _ => False) w V := by subst hV; exact m0.alloc _
  have hv9 : ∀ j u, (m.nine.map Value.string)[j]? = some u → V.cell? ⟨W.heap.size, j, none⟩ = some u := fun j u hj => by rw [cell_of hV0, List.getElem?_toArray]; exact hj
  unfold Msg.nine at hV
  simp only [List.map_cons, List.map_nil] at hV
  have c12v : V.cell? ⟨w.heap.size, 12, none⟩ = some (.slice an m.names.length cn) := by rw [← hV]; exact keepR ((Mod.refl _ W).alloc _) c12
  have HT := Lib.hid hT
  clear hb hV0 hT
  go_enter Tryz.func31, Tryz.ntmps31
  have H9 : Hid (∀ j u, (m.nine.map Value.string)[j]? = some u → ∃ g off, (some ⟨W.heap.size, 0, none⟩ : Option Addr) = some ⟨g, off, none⟩ ∧ g < V.heap.size ∧ V.cell? ⟨g, off + j, none⟩ = some u) := fun j u hj => ⟨W.heap.size, 0, rfl, World.block_lt_of_cell? _ _ (hv9 0 _ rfl), by rw [Nat.zero_add]; exact hv9 j u hj⟩
  have HNm : Hid (∀ j u, (m.names.map Value.string)[j]? = some u → ∃ g off, an = some ⟨g, off, none⟩ ∧ g < V.heap.size ∧ V.cell? ⟨g, off + j, none⟩ = some u) := fun j u hj => by
    obtain ⟨g, off, h1, _, h3, h4⟩ := hvx j u hj
    exact ⟨g, off, h1, Nat.lt_of_lt_of_le h3 m1.size, keepR m1 h4⟩
  have hS9 : ∀ s ∈ m.nine, s.size ≤ 262144 := by
    intro s hm
    simp only [Msg.nine, List.mem_cons, List.not_mem_nil, or_false] at hm
    rcases hm with rfl | rfl | rfl | rfl | rfl | rfl | rfl | rfl | rfl
    · exact hs.version
    · exact hs.uname
    · exact hs.aname
    · exact hs.ename
    · exact hs.name
    · exact hs.st.1
    · exact hs.st.2.1
    · exact hs.st.2.2.1
    · exact hs.st.2.2.2
  have hSn := hs.names
  have nl := hs.nl
  have hB9 : ∀ {s : ByteArray}, okT s = false → s ∈ m.nine → plainM m = false := fun h hm => by
    unfold plainM
    rw [show m.nine.all okT = false from by rw [List.all_eq_false]; exact ⟨_, hm, by rw [h]; simp⟩]
    rfl
  have hBn : ∀ {s : ByteArray}, okT s = false → s ∈ m.names → plainM m = false := fun h hm => by
    unfold plainM
    rw [show m.names.all okT = false from by rw [List.all_eq_false]; exact ⟨_, hm, by rw [h]; simp⟩, Bool.and_false]
  have hl9 : m.nine.length = 9 := rfl
  have ix0 := fun U => (idx2s (some ⟨W.heap.size, 0, none⟩) an 9 m.names.length 9 cn U).1
  have ix1 := fun U => (idx2s (some ⟨W.heap.size, 0, none⟩) an 9 m.names.length 9 cn U).2
  have M1 := Lib.hid m1
  clear m1 hvx hv9 hn
  go_wp2
  go_loopw [2, 4, 33] (fun r _ i wr => ∃ k : Nat, r = .bool false ∧ k ≤ 2 ∧ i = .int .i64 k ∧ Hid ((1 ≤ k → m.nine.all okT = true) ∧ (2 ≤ k → m.names.all okT = true)) ∧ Hid (Mod (fun _ => False) V wr)) (fun _ _ i _ => 2 - (intOf i).toNat)
  case atStart => exact ⟨0, rfl, by omega, rfl, ⟨fun h => by omega, fun h => by omega⟩, Mod.refl _ _⟩
  case round =>
    clear c3 c8 c9 c10 c11 c12 c32 c33 c34 c35 c12v hV hW
    obtain ⟨k, rfl, hk, rfl, HK, MM⟩ := hrel
    by_cases hk0 : k = 0
    · subst hk0
      go_wp2
      go_loopw [2, 6, 38] (fun r _ i wr => ∃ (j : Nat), r = .bool false ∧ j ≤ (m.nine).length ∧ i = .int .i64 j ∧ Hid (∀ s ∈ (m.nine).take j, okT s = true) ∧ Hid (Mod (fun _ => False) V wr)) (fun _ _ i _ => (m.nine).length - (intOf i).toNat)
      case atStart => exact ⟨0, rfl, Nat.zero_le _, rfl, fun s hs => (by simp at hs), MM.out⟩
      case round =>
        clear MM
        obtain ⟨j, rfl, hj, rfl, HJ, MM⟩ := hrel
        by_cases hjl : j < (m.nine).length
        · obtain ⟨g, off, hge, hg, hc⟩ := H9.out j _ (strs_get hjl)
          first | subst hge | (injection hge with hge; injection hge with hg1 hg2; subst hg1; subst hg2)
          have c0 := keepR MM.out hc
          try rw [Nat.zero_add] at c0
          have t1 : decide ((j : Int) < ((9 : Nat) : Int)) = true := by simp; omega
          have t1' : decide ((j : Int) < 9) = true := by simp; omega
          have j1 : (0 : Int) ≤ (j : Int) := by omega
          have j2 : (j : Int) < ((9 : Nat) : Int) := by omega
          have j2' : (j : Int) < 9 := by omega
          have hsz := hS9 _ (List.getElem_mem hjl)
          have hmem := List.getElem_mem hjl
          have HS := Lib.hid (show (m.nine).take (j + 1) = (m.nine).take j ++ [(m.nine)[j]] from List.take_succ_eq_append_getElem hjl)
          generalize (m.nine)[j] = s at *
          have hV := valid_any s wr (by omega) ((HT.out.mod M1.out).mod MM.out)
          have hR := fun U => rune_any s U
          clear hc
          cases hv : Lib.validD s.data.toList with
          | false =>
            rw [hv] at hV
            have HN : Hid (plainM m = false) := hB9 (show okT s = false by unfold okT; rw [hv]; rfl) hmem
            clear hv
            go_wp2_with fail
            refine hV.mono ?_
            rintro e w2 ⟨rfl, m2⟩
            go_wp2
            go_ret
            exact ⟨by rw [HN.out]; rfl, (M1.out.trans MM.out).trans m2⟩
          | true =>
            rw [hv] at hV
            cases hz : hasZ s with
            | true =>
              have HN : Hid (plainM m = false) := hB9 (show okT s = false by unfold okT; rw [hv, hz]; rfl) hmem
              rw [hz] at hR
              clear hv hz
              go_wp2_with fail
              refine hV.mono ?_
              rintro e w2 ⟨rfl, m2⟩
              go_wp2_with fail
              refine (hR _).mono ?_
              rintro e w3 ⟨rfl, rfl⟩
              go_wp2
              go_ret
              exact ⟨by rw [HN.out]; rfl, (M1.out.trans MM.out).trans m2⟩
            | false =>
              have hok : okT s = true := by unfold okT; rw [hv, hz]; rfl
              rw [hz] at hR
              have HJ2 : Hid (∀ s ∈ (m.nine).take (j + 1), okT s = true) := by
                rw [HS.out]
                intro x hx
                rcases List.mem_append.1 hx with h | h
                · exact HJ.out x h
                · rw [List.mem_singleton.1 h]; exact hok
              clear hv hz hok
              go_wp2_with fail
              refine hV.mono ?_
              rintro e w2 ⟨rfl, m2⟩
              go_wp2_with fail
              refine (hR _).mono ?_
              rintro e w3 ⟨rfl, rfl⟩
              go_wp2
              go_roundw
              case rel => exact ⟨_, _, _, _, _, _, _, _, _, _, _, _, _, _, ⟨j + 1, rfl, hjl, by go_num, HJ2, MM.out.trans m2⟩, rfl⟩
              case measure => simp [intOf]; omega
        · obtain rfl : j = (m.nine).length := by omega
          have t1 : decide (((9 : Nat) : Int) < ((9 : Nat) : Int)) = false := by simp
          have HAll : Hid ((m.nine).all okT = true) := by
            have h := HJ.out
            rw [List.take_length] at h
            exact List.all_eq_true.2 h
          go_wp2
          go_roundw
          case rel => exact ⟨0 + 1, rfl, by omega, rfl, ⟨fun h => by first | exact HAll.out | exact HK.out.1 (by omega), fun h => by first | omega | exact HAll.out⟩, MM.out⟩
          case measure => simp [intOf]
    by_cases hk1 : k = 1
    · subst hk1
      go_wp2
      go_loopw [2, 6, 38] (fun r _ i wr => ∃ (j : Nat), r = .bool false ∧ j ≤ (m.names).length ∧ i = .int .i64 j ∧ Hid (∀ s ∈ (m.names).take j, okT s = true) ∧ Hid (Mod (fun _ => False) V wr)) (fun _ _ i _ => (m.names).length - (intOf i).toNat)
      case atStart => exact ⟨0, rfl, Nat.zero_le _, rfl, fun s hs => (by simp at hs), MM.out⟩
      case round =>
        clear MM
        obtain ⟨j, rfl, hj, rfl, HJ, MM⟩ := hrel
        by_cases hjl : j < (m.names).length
        · obtain ⟨g, off, hge, hg, hc⟩ := HNm.out j _ (strs_get hjl)
          first | subst hge | (injection hge with hge; injection hge with hg1 hg2; subst hg1; subst hg2)
          have c0 := keepR MM.out hc
          try rw [Nat.zero_add] at c0
          have t1 : decide ((j : Int) < ((m.names.length : Nat) : Int)) = true := by simp; omega
          have t1' : decide ((j : Int) < m.names.length) = true := by simp; omega
          have j1 : (0 : Int) ≤ (j : Int) := by omega
          have j2 : (j : Int) < ((m.names.length : Nat) : Int) := by omega
          have j2' : (j : Int) < m.names.length := by omega
          have hsz := hSn _ (List.getElem_mem hjl)
          have hmem := List.getElem_mem hjl
          have HS := Lib.hid (show (m.names).take (j + 1) = (m.names).take j ++ [(m.names)[j]] from List.take_succ_eq_append_getElem hjl)
          generalize (m.names)[j] = s at *
          have hV := valid_any s wr (by omega) ((HT.out.mod M1.out).mod MM.out)
          have hR := fun U => rune_any s U
          clear hc
          cases hv : Lib.validD s.data.toList with
          | false =>
            rw [hv] at hV
            have HN : Hid (plainM m = false) := hBn (show okT s = false by unfold okT; rw [hv]; rfl) hmem
            clear hv
            go_wp2_with fail
            refine hV.mono ?_
            rintro e w2 ⟨rfl, m2⟩
            go_wp2
            go_ret
            exact ⟨by rw [HN.out]; rfl, (M1.out.trans MM.out).trans m2⟩
          | true =>
            rw [hv] at hV
            cases hz : hasZ s with
            | true =>
              have HN : Hid (plainM m = false) := hBn (show okT s = false by unfold okT; rw [hv, hz]; rfl) hmem
              rw [hz] at hR
              clear hv hz
              go_wp2_with fail
              refine hV.mono ?_
              rintro e w2 ⟨rfl, m2⟩
              go_wp2_with fail
              refine (hR _).mono ?_
              rintro e w3 ⟨rfl, rfl⟩
              go_wp2
              go_ret
              exact ⟨by rw [HN.out]; rfl, (M1.out.trans MM.out).trans m2⟩
            | false =>
              have hok : okT s = true := by unfold okT; rw [hv, hz]; rfl
              rw [hz] at hR
              have HJ2 : Hid (∀ s ∈ (m.names).take (j + 1), okT s = true) := by
                rw [HS.out]
                intro x hx
                rcases List.mem_append.1 hx with h | h
                · exact HJ.out x h
                · rw [List.mem_singleton.1 h]; exact hok
              clear hv hz hok
              go_wp2_with fail
              refine hV.mono ?_
              rintro e w2 ⟨rfl, m2⟩
              go_wp2_with fail
              refine (hR _).mono ?_
              rintro e w3 ⟨rfl, rfl⟩
              go_wp2
              go_roundw
              case rel => exact ⟨_, _, _, _, _, _, _, _, _, _, _, _, _, _, ⟨j + 1, rfl, hjl, by go_num, HJ2, MM.out.trans m2⟩, rfl⟩
              case measure => simp [intOf]; omega
        · obtain rfl : j = (m.names).length := by omega
          have t1 : decide (((m.names.length : Nat) : Int) < ((m.names.length : Nat) : Int)) = false := by simp
          have HAll : Hid ((m.names).all okT = true) := by
            have h := HJ.out
            rw [List.take_length] at h
            exact List.all_eq_true.2 h
          go_wp2
          go_roundw
          case rel => exact ⟨1 + 1, rfl, by omega, rfl, ⟨fun h => by first | exact HAll.out | exact HK.out.1 (by omega), fun h => by first | omega | exact HAll.out⟩, MM.out⟩
          case measure => simp [intOf]
    obtain rfl : k = 2 := by omega
    go_wp2
    go_ret
    refine ⟨?_, M1.out.trans MM.out⟩
    have h1 := HK.out.1 (by omega)
    have h2 := HK.out.2 (by omega)
    unfold plainM
    rw [h1, h2]
    rfl
end Go.Proofs.YtklpopmjpgdjnaaGreatDoor
