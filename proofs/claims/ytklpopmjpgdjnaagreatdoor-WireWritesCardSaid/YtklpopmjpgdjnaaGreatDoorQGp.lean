/- The document's Shape, walked.
   The law's copied, once more: whose the lists are. And a text put into a row of one's own. -/
import Derived.Test.YtklpopmjpgdjnaaGreatDoorQRefAll
import Derived.Test.YtklpopmjpgdjnaaGreatDoorQGo
import Derived.Test.YtklpopmjpgdjnaaGreatDoorQShape24
import Derived.Test.YtklpopmjpgdjnaaGreatDoorQLawLong
set_option linter.unusedVariables false
set_option linter.unusedSimpArgs false
namespace Go.Proofs.YtklpopmjpgdjnaaGreatDoor
open Go.RowKit

theorem all_x (s : ByteArray) (w : World) (hs : s.size ≤ 262144) :
    Calls Tryz.prog 48 #[.string s, .int .u8 120] w fun e w' => e = .returned (.string (rep 120 s.size)) ∧ Mod (fun _ => False) w w' := all24_any s 120 120 rfl w hs
theorem all_0 (s : ByteArray) (w : World) (hs : s.size ≤ 262144) :
    Calls Tryz.prog 48 #[.string s, .int .u8 0] w fun e w' => e = .returned (.string (rep 0 s.size)) ∧ Mod (fun _ => False) w w' := all24_any s 0 0 rfl w hs
set_option maxHeartbeats 4000000 in
set_option maxRecDepth 100000 in
theorem rshape24_any (m : Msg) (vn vq : Value) (P : Nat → Prop) (w : World) (hk : m.Ok) (hs : m.Small) (hn : SlAt w P vn (m.names.map .string)) (hq : RecsAt Qd.cells 3 w P vq m.qids) (hT : Tabs w) :
    Calls Tryz.prog 20 #[.agg (m.cells vn vq).toArray] w fun e w' => e = .returned (.string (shapeB m)) ∧ Mod (fun _ => False) w w' := by
  obtain ⟨W, hW⟩ : ∃ W, w.alloc (.cells (m.cells vn vq).toArray 33) = W := ⟨_, rfl⟩
  have hb : W.heap[w.heap.size]? = some (msgO m vn vq) := by subst hW; exact new_at _ _
  have m0 : Mod (fun _ => False) w W := by subst hW; exact (Mod.refl _ w).alloc _
  have hrg : W.rangeAt w.heap.size 0 (m.cells vn vq) := fun j u hu => by rw [Nat.zero_add, cell_of hb, List.getElem?_toArray]; exact hu
  have hlen : (m.cells vn vq).length = 36 := rfl
  have hM := renc24_any m vn vq P W hk hs (hn.mod m0 fun _ _ _ x => x) (hq.mod m0 fun _ _ _ x => x) (hT.mod m0)
  rw [encR_eq] at hM
  have HV : Hid (shapeB m = if (encM m).2 = 0 then (encM (shapeM m)).1 else ByteArray.empty) := rfl
  have HB := Lib.hid hb
  have HN := Lib.hid hn
  have HQ := Lib.hid hq
  have HT := Lib.hid hT
  have M0 := Lib.hid m0
  clear hb hn hq hT m0
  go_enter Tryz.func20, Tryz.ntmps20
  by_cases he : (encM m).2 = 0
  case neg =>
    have q1 : ((encM m).2 != 0) = true := by simp [he]
    have HF : Hid (shapeB m = ByteArray.empty) := HV.out.trans (if_neg he)
    generalize (encM m).2 = er at *
    clear he HV
    go_wp2_with (first
      | refine wpList_load_mid rfl 33 (.tmp 1) rfl w.heap.size 0 rfl (m.cells vn vq) _ hrg Tryz.underlying33 rfl (by kernel_rfl) ?_
      | (go_at_call 18; refine hM.mono ?_; rintro e w1 ⟨rfl, m1⟩))
    go_ret
    exact ⟨by rw [HF.out]; rfl, M0.out.trans m1⟩
  have q1 : ((encM m).2 != 0) = false := by simp [he]
  have HF : Hid (shapeB m = (encM (shapeM m)).1) := HV.out.trans (if_pos he)
  generalize (encM m).2 = er at *
  generalize (encM m).1 = eb at *
  clear he HV
  have hR : ∀ U : World, Calls Tryz.prog 48 #[.string m.version, .int .u8 120] U fun e w' => e = .returned (.string (rep 120 m.version.size)) ∧ Mod (fun _ => False) U w' := fun U => all_x m.version U hs.version
  go_wp2_with (first
    | refine wpList_load_mid rfl 33 (.tmp 1) rfl w.heap.size 0 rfl (m.cells vn vq) _ hrg Tryz.underlying33 rfl (by kernel_rfl) ?_
    | (go_at_call 18; refine hM.mono ?_; rintro e V ⟨rfl, m1⟩; have HB1 := Lib.hid ((m1.block _ (lt_of HB.out) (fun x => x)).trans HB.out); have MM := Lib.hid (M0.out.trans m1); clear hM hrg m1 hW HB; have c : V.cell? ⟨w.heap.size, 3, none⟩ = some (.string m.version) := (cell_of HB1.out 3).trans rfl; have HB := HB1; clear HB1; have hR := hR V))
  obtain ⟨b, hbb⟩ : ∃ b, w.heap.size = b := ⟨_, rfl⟩
  have hbs : ∀ U, Mod (fun _ => False) w U → w.heap.size ≤ U.heap.size := fun U h => h.size
  rw [hbb] at HB c ⊢
  go_wp2_with fail
  refine hR.mono ?_
  rintro e w2 ⟨rfl, m2⟩
  have hb2 := (m2.block _ (lt_of HB.out) (fun x => x)).trans HB.out
  have c1 := keepR m2 c
  have xf : w2.frozen? ⟨b, 3, none⟩ = false := free_of hb2 3
  obtain ⟨V1, hW3⟩ : ∃ W3, w2.setCell ⟨b, 3, none⟩ (.string (rep 120 m.version.size)) = W3 := ⟨_, rfl⟩
  have HB3 : Hid (V1.heap[b]? = some (msgO (part m 1) vn vq)) := by
    rw [← hW3]
    exact heap_set hb2 3 (.string (rep 120 m.version.size))
  have MM3 : Hid (Mod (fun _ => False) w V1) := by
    rw [← hW3]
    exact (MM.out.trans m2).trans' (Mod.set1 w2 b 3 _) fun j hj e => by omega
  clear hR m2 hb2 c HB MM
  have HB := HB3
  have MM := MM3
  clear HB3 MM3
  have c : V1.cell? ⟨b, 8, none⟩ = some (.string m.uname) := (cell_of HB.out 8).trans rfl
  have hR := all_x m.uname V1 hs.uname
  go_wp2_with fail
  clear hW3 xf c1
  go_wp2_with fail
  refine hR.mono ?_
  rintro e w2 ⟨rfl, m2⟩
  have hb2 := (m2.block _ (lt_of HB.out) (fun x => x)).trans HB.out
  have c1 := keepR m2 c
  have xf : w2.frozen? ⟨b, 8, none⟩ = false := free_of hb2 8
  obtain ⟨V2, hW3⟩ : ∃ W3, w2.setCell ⟨b, 8, none⟩ (.string (rep 120 m.uname.size)) = W3 := ⟨_, rfl⟩
  have HB3 : Hid (V2.heap[b]? = some (msgO (part m 2) vn vq)) := by
    rw [← hW3]
    exact heap_set hb2 8 (.string (rep 120 m.uname.size))
  have MM3 : Hid (Mod (fun _ => False) w V2) := by
    rw [← hW3]
    exact (MM.out.trans m2).trans' (Mod.set1 w2 b 8 _) fun j hj e => by omega
  clear hR m2 hb2 c HB MM
  have HB := HB3
  have MM := MM3
  clear HB3 MM3
  have c : V2.cell? ⟨b, 9, none⟩ = some (.string m.aname) := (cell_of HB.out 9).trans rfl
  have hR := all_x m.aname V2 hs.aname
  go_wp2_with fail
  clear hW3 xf c1
  go_wp2_with fail
  refine hR.mono ?_
  rintro e w2 ⟨rfl, m2⟩
  have hb2 := (m2.block _ (lt_of HB.out) (fun x => x)).trans HB.out
  have c1 := keepR m2 c
  have xf : w2.frozen? ⟨b, 9, none⟩ = false := free_of hb2 9
  obtain ⟨V3, hW3⟩ : ∃ W3, w2.setCell ⟨b, 9, none⟩ (.string (rep 120 m.aname.size)) = W3 := ⟨_, rfl⟩
  have HB3 : Hid (V3.heap[b]? = some (msgO (part m 3) vn vq)) := by
    rw [← hW3]
    exact heap_set hb2 9 (.string (rep 120 m.aname.size))
  have MM3 : Hid (Mod (fun _ => False) w V3) := by
    rw [← hW3]
    exact (MM.out.trans m2).trans' (Mod.set1 w2 b 9 _) fun j hj e => by omega
  clear hR m2 hb2 c HB MM
  have HB := HB3
  have MM := MM3
  clear HB3 MM3
  have c : V3.cell? ⟨b, 10, none⟩ = some (.string m.ename) := (cell_of HB.out 10).trans rfl
  have hR := all_x m.ename V3 hs.ename
  go_wp2_with fail
  clear hW3 xf c1
  go_wp2_with fail
  refine hR.mono ?_
  rintro e w2 ⟨rfl, m2⟩
  have hb2 := (m2.block _ (lt_of HB.out) (fun x => x)).trans HB.out
  have c1 := keepR m2 c
  have xf : w2.frozen? ⟨b, 10, none⟩ = false := free_of hb2 10
  obtain ⟨V4, hW3⟩ : ∃ W3, w2.setCell ⟨b, 10, none⟩ (.string (rep 120 m.ename.size)) = W3 := ⟨_, rfl⟩
  have HB3 : Hid (V4.heap[b]? = some (msgO (part m 4) vn vq)) := by
    rw [← hW3]
    exact heap_set hb2 10 (.string (rep 120 m.ename.size))
  have MM3 : Hid (Mod (fun _ => False) w V4) := by
    rw [← hW3]
    exact (MM.out.trans m2).trans' (Mod.set1 w2 b 10 _) fun j hj e => by omega
  clear hR m2 hb2 c HB MM
  have HB := HB3
  have MM := MM3
  clear HB3 MM3
  have c : V4.cell? ⟨b, 11, none⟩ = some (.string m.name) := (cell_of HB.out 11).trans rfl
  have hR := all_x m.name V4 hs.name
  go_wp2_with fail
  clear hW3 xf c1
  go_wp2_with fail
  refine hR.mono ?_
  rintro e w2 ⟨rfl, m2⟩
  have hb2 := (m2.block _ (lt_of HB.out) (fun x => x)).trans HB.out
  have c1 := keepR m2 c
  have xf : w2.frozen? ⟨b, 11, none⟩ = false := free_of hb2 11
  obtain ⟨V5, hW3⟩ : ∃ W3, w2.setCell ⟨b, 11, none⟩ (.string (rep 120 m.name.size)) = W3 := ⟨_, rfl⟩
  have HB3 : Hid (V5.heap[b]? = some (msgO (part m 5) vn vq)) := by
    rw [← hW3]
    exact heap_set hb2 11 (.string (rep 120 m.name.size))
  have MM3 : Hid (Mod (fun _ => False) w V5) := by
    rw [← hW3]
    exact (MM.out.trans m2).trans' (Mod.set1 w2 b 11 _) fun j hj e => by omega
  clear hR m2 hb2 c HB MM
  have HB := HB3
  have MM := MM3
  clear HB3 MM3
  have c : V5.cell? ⟨b, 32, none⟩ = some (.string m.stat.n) := (cell_of HB.out 32).trans rfl
  have hR := all_x m.stat.n V5 hs.st.1
  go_wp2_with fail
  clear hW3 xf c1
  go_wp2_with fail
  refine hR.mono ?_
  rintro e w2 ⟨rfl, m2⟩
  have hb2 := (m2.block _ (lt_of HB.out) (fun x => x)).trans HB.out
  have c1 := keepR m2 c
  have xf : w2.frozen? ⟨b, 32, none⟩ = false := free_of hb2 32
  obtain ⟨V6, hW3⟩ : ∃ W3, w2.setCell ⟨b, 32, none⟩ (.string (rep 120 m.stat.n.size)) = W3 := ⟨_, rfl⟩
  have HB3 : Hid (V6.heap[b]? = some (msgO (part m 6) vn vq)) := by
    rw [← hW3]
    exact heap_set hb2 32 (.string (rep 120 m.stat.n.size))
  have MM3 : Hid (Mod (fun _ => False) w V6) := by
    rw [← hW3]
    exact (MM.out.trans m2).trans' (Mod.set1 w2 b 32 _) fun j hj e => by omega
  clear hR m2 hb2 c HB MM
  have HB := HB3
  have MM := MM3
  clear HB3 MM3
  have c : V6.cell? ⟨b, 33, none⟩ = some (.string m.stat.u) := (cell_of HB.out 33).trans rfl
  have hR := all_x m.stat.u V6 hs.st.2.1
  go_wp2_with fail
  clear hW3 xf c1
  go_wp2_with fail
  refine hR.mono ?_
  rintro e w2 ⟨rfl, m2⟩
  have hb2 := (m2.block _ (lt_of HB.out) (fun x => x)).trans HB.out
  have c1 := keepR m2 c
  have xf : w2.frozen? ⟨b, 33, none⟩ = false := free_of hb2 33
  obtain ⟨V7, hW3⟩ : ∃ W3, w2.setCell ⟨b, 33, none⟩ (.string (rep 120 m.stat.u.size)) = W3 := ⟨_, rfl⟩
  have HB3 : Hid (V7.heap[b]? = some (msgO (part m 7) vn vq)) := by
    rw [← hW3]
    exact heap_set hb2 33 (.string (rep 120 m.stat.u.size))
  have MM3 : Hid (Mod (fun _ => False) w V7) := by
    rw [← hW3]
    exact (MM.out.trans m2).trans' (Mod.set1 w2 b 33 _) fun j hj e => by omega
  clear hR m2 hb2 c HB MM
  have HB := HB3
  have MM := MM3
  clear HB3 MM3
  have c : V7.cell? ⟨b, 34, none⟩ = some (.string m.stat.g) := (cell_of HB.out 34).trans rfl
  have hR := all_x m.stat.g V7 hs.st.2.2.1
  go_wp2_with fail
  clear hW3 xf c1
  go_wp2_with fail
  refine hR.mono ?_
  rintro e w2 ⟨rfl, m2⟩
  have hb2 := (m2.block _ (lt_of HB.out) (fun x => x)).trans HB.out
  have c1 := keepR m2 c
  have xf : w2.frozen? ⟨b, 34, none⟩ = false := free_of hb2 34
  obtain ⟨V8, hW3⟩ : ∃ W3, w2.setCell ⟨b, 34, none⟩ (.string (rep 120 m.stat.g.size)) = W3 := ⟨_, rfl⟩
  have HB3 : Hid (V8.heap[b]? = some (msgO (part m 8) vn vq)) := by
    rw [← hW3]
    exact heap_set hb2 34 (.string (rep 120 m.stat.g.size))
  have MM3 : Hid (Mod (fun _ => False) w V8) := by
    rw [← hW3]
    exact (MM.out.trans m2).trans' (Mod.set1 w2 b 34 _) fun j hj e => by omega
  clear hR m2 hb2 c HB MM
  have HB := HB3
  have MM := MM3
  clear HB3 MM3
  have c : V8.cell? ⟨b, 35, none⟩ = some (.string m.stat.m) := (cell_of HB.out 35).trans rfl
  have hR := all_x m.stat.m V8 hs.st.2.2.2
  go_wp2_with fail
  clear hW3 xf c1
  go_wp2_with fail
  refine hR.mono ?_
  rintro e w2 ⟨rfl, m2⟩
  have hb2 := (m2.block _ (lt_of HB.out) (fun x => x)).trans HB.out
  have c1 := keepR m2 c
  have xf : w2.frozen? ⟨b, 35, none⟩ = false := free_of hb2 35
  obtain ⟨V9, hW3⟩ : ∃ W3, w2.setCell ⟨b, 35, none⟩ (.string (rep 120 m.stat.m.size)) = W3 := ⟨_, rfl⟩
  have HB3 : Hid (V9.heap[b]? = some (msgO (part m 9) vn vq)) := by
    rw [← hW3]
    exact heap_set hb2 35 (.string (rep 120 m.stat.m.size))
  have MM3 : Hid (Mod (fun _ => False) w V9) := by
    rw [← hW3]
    exact (MM.out.trans m2).trans' (Mod.set1 w2 b 35 _) fun j hj e => by omega
  clear hR m2 hb2 c HB MM
  have HB := HB3
  have MM := MM3
  clear HB3 MM3
  have c : V9.cell? ⟨b, 22, none⟩ = some (.string m.data) := (cell_of HB.out 22).trans rfl
  have hR := all_0 m.data V9 hs.data
  go_wp2_with fail
  clear hW3 xf c1
  go_wp2_with fail
  refine hR.mono ?_
  rintro e w2 ⟨rfl, m2⟩
  have hb2 := (m2.block _ (lt_of HB.out) (fun x => x)).trans HB.out
  have c1 := keepR m2 c
  have xf : w2.frozen? ⟨b, 22, none⟩ = false := free_of hb2 22
  obtain ⟨V10, hW3⟩ : ∃ W3, w2.setCell ⟨b, 22, none⟩ (.string (rep 0 m.data.size)) = W3 := ⟨_, rfl⟩
  have HB3 : Hid (V10.heap[b]? = some (msgO (shapeM m) vn vq)) := by
    rw [← hW3]
    exact heap_set hb2 22 (.string (rep 0 m.data.size))
  have MM3 : Hid (Mod (fun _ => False) w V10) := by
    rw [← hW3]
    exact (MM.out.trans m2).trans' (Mod.set1 w2 b 22 _) fun j hj e => by omega
  clear hR m2 hb2 c HB MM
  have HB := HB3
  have MM := MM3
  clear HB3 MM3
  obtain ⟨an, cn, rfl, hcn, hvx⟩ := HN.out.form
  rw [List.length_map] at *
  have nl := hs.nl
  have hsl : (shapeM m).names.length = m.names.length := List.length_map _
  have c12 : V10.cell? ⟨b, 12, none⟩ = some (.slice an m.names.length cn) := (cell_of HB.out 12).trans rfl
  have hbl : b < V10.heap.size := lt_of HB.out
  go_wp2
  clear hW3 xf c1
  go_loopw [5, 6] (fun v i wr => ∃ j : Nat, j ≤ m.names.length ∧ i = .int .i64 j ∧ Hid (OwnA wr V10.heap.size 1 v j (((shapeM m).names.take j).map Value.string)) ∧ Hid (Mod (fun _ => False) V10 wr)) (fun _ i _ => m.names.length - (intOf i).toNat)
  case atStart => exact ⟨0, Nat.zero_le _, rfl, Lib.hid (OwnA.nil _ _ _), Lib.hid (Mod.refl _ _)⟩
  case round =>
    obtain ⟨j, hj, rfl, HO, MW⟩ := hrel
    have c12 := keepR MW.out c12
    by_cases hjl : j < m.names.length
    · obtain ⟨g, off, rfl, hg, hgl, hc⟩ := hvx j _ (strs_get hjl)
      have c0 := keepR (MM.out.trans MW.out) hc
      have t2 : decide ((j : Int) < (m.names.length : Int)) = true := by simp; omega
      have j1 : (0 : Int) ≤ (j : Int) := by omega
      have j2 : (j : Int) < (m.names.length : Int) := by omega
      have hts := hs.names _ (List.getElem_mem hjl)
      have HTk : Hid ((shapeM m).names.take (j + 1) = (shapeM m).names.take j ++ [rep 120 m.names[j].size]) := by
        show _ = _
        rw [List.take_succ_eq_append_getElem (by rw [hsl]; exact hjl)]
        congr 2
        exact List.getElem_map _
      generalize m.names[j] = t at *
      have hR := fun U => all_x t U hts
      clear hc
      go_wp2_with fail
      refine (hR _).mono ?_
      rintro e w5 ⟨rfl, m5⟩
      have m55 : Mod (fun _ => False) wr (w5.alloc (.cells #[.string (rep 120 t.size)] 9)) := m5.alloc _
      have A1 : Hid (OwnA (w5.alloc (.cells #[.string (rep 120 t.size)] 9)) V10.heap.size 1 u5 j (((shapeM m).names.take j).map Value.string)) := HO.out.mod m55 (fun _ _ x => x)
      have A2 := Lib.hid (src_rep (rep 120 t.size) w5)
      have A3 : Hid ((j + 1) * 16 ≤ 140737488355328) := by show _ ≤ _; omega
      have A4 : Hid (j + 1 ≤ 9223372036854775807) := by show _ ≤ _; omega
      have A5 : Hid (V10.heap.size ≤ (w5.alloc (.cells #[.string (rep 120 t.size)] 9)).heap.size) := Nat.le_trans MW.out.size m55.size
      have ME := Lib.hid (MW.out.trans m55)
      clear hR c0 m5 m55 MW HO c12
      go_wp2_with (refine wpl_append rfl (.tmp 71) (.tmp 78) _ _ rfl V10.heap.size 9 (.string { data := #[] }) 1 16 Tryz.underlying25 info_str rfl (by decide) u5 _ _ rfl A1.out _ _ _ rfl A2.out A3.out A4.out A5.out ?_; intro v' w6 hown' hgrow)
      go_roundw
      case rel =>
        refine ⟨j + 1, hjl, by go_num, ?_, ?_⟩
        · rw [HTk.out, List.map_append]; exact hown'
        · exact A1.out.thenMod ME.out hgrow (Nat.le_refl _)
      case measure => simp [intOf]; omega
    · obtain rfl : j = m.names.length := by omega
      have t2 : decide ((m.names.length : Int) < (m.names.length : Int)) = false := by simp
      have hsz := shapeM_sz m
      have hnr : SlAt wr (V10.heap.size ≤ ·) u5 ((shapeM m).names.map Value.string) := by
        have := HO.out.slAt
        rw [← hsl, List.take_length] at this
        exact this
      have hfm := hnr.form
      rw [List.length_map, hsl] at hfm
      obtain ⟨a6, d6, rfl, hd6, _⟩ := hfm
      have hb1 := (MW.out.block _ (lt_of HB.out) (fun x => x)).trans HB.out
      have xf : wr.frozen? ⟨b, 12, none⟩ = false := free_of hb1 12
      obtain ⟨W7, hW7⟩ : ∃ W7, wr.setCell ⟨b, 12, none⟩ (.slice a6 m.names.length d6) = W7 := ⟨_, rfl⟩
      have hb7 : W7.heap[b]? = some (msgO (shapeM m) (.slice a6 m.names.length d6) vq) := by rw [← hW7]; exact heap_set hb1 12 _
      have m7 : Mod (· = b) wr W7 := by rw [← hW7]; exact Mod.set1 _ _ _ _
      have MF : Hid (Mod (fun _ => False) w W7) := (MM.out.trans MW.out).trans' m7 fun k hk e => by omega
      have hnr7 := hnr.mod m7 fun g hg _ e => by omega
      have hE := renc24_any (shapeM m) (.slice a6 m.names.length d6) vq (fun _ => True) W7 (hsz.ok hk) (hsz.small hs) (hnr7.imp fun _ _ => trivial) ((HQ.out.mod MF.out fun _ _ _ x => x).imp fun _ _ => trivial) (HT.out.mod MF.out)
      rw [encR_eq] at hE
      have hrg : W7.rangeAt b 0 ((shapeM m).cells (.slice a6 m.names.length d6) vq) := fun j u hu => by rw [Nat.zero_add, cell_of hb7, List.getElem?_toArray]; exact hu
      have hlen2 : ((shapeM m).cells (.slice a6 m.names.length d6) vq).length = 36 := rfl
      clear hnr hnr7 hvx HO hb1 hb7 m7 hbb
      go_wp2_with (first
        | refine wpList_load_mid rfl 33 (.tmp 1) rfl b 0 rfl ((shapeM m).cells (.slice a6 m.names.length d6) vq) _ hrg Tryz.underlying33 rfl (by kernel_rfl) ?_
        | (go_at_call 18; refine hE.mono ?_; rintro e w8 ⟨rfl, m8⟩))
      go_ret
      exact ⟨by rw [HF.out]; rfl, MF.out.trans m8⟩
end Go.Proofs.YtklpopmjpgdjnaaGreatDoor
namespace Go.Proofs.YtklpopmjpgdjnaaGreatDoor
open Go.RowKit

set_option maxHeartbeats 4000000 in
set_option maxRecDepth 100000 in
theorem copied_own (m : Msg) (vn vq : Value) (P : Nat → Prop) (w : World) (hnl : m.names.length ≤ 1000000) (hql : m.qids.length ≤ 1000000) (hn : SlAt w P vn (m.names.map .string)) (hq : RecsAt Qd.cells 3 w P vq m.qids) :
    Calls Tryz.prog 16 #[.agg (m.cells vn vq).toArray] w fun e w' => ∃ vn' vq' B, e = .returned (.agg (m.cells vn' vq').toArray) ∧ OwnA w' w.heap.size 1 vn' m.names.length (m.names.map Value.string) ∧ (∀ k, some k = vn'.ownBlock → k < B) ∧ RecsAt Qd.cells 3 w' (B ≤ ·) vq' m.qids ∧ Mod (fun _ => False) w w' := by
  obtain ⟨W, hW⟩ : ∃ W, w.alloc (.cells (m.cells vn vq).toArray 33) = W := ⟨_, rfl⟩
  have hb : W.heap[w.heap.size]? = some (msgO m vn vq) := by subst hW; exact new_at _ _
  have m0 : Mod (fun _ => False) w W := by subst hW; exact (Mod.refl _ w).alloc _
  obtain ⟨V, hV⟩ : ∃ V, W.alloc (msgO Msg.zero (.slice none 0 0) (.slice none 0 0)) = V := ⟨_, rfl⟩
  have hz : V.heap[W.heap.size]? = some (msgO Msg.zero (.slice none 0 0) (.slice none 0 0)) := by subst hV; exact new_at _ _
  have m1 : Mod (fun _ => False) W V := by subst hV; exact (Mod.refl _ W).alloc _
  have hsz : W.heap.size = w.heap.size + 1 := by subst hW; simp
  have hb1 := (m1.block _ (lt_of hb) (fun x => x)).trans hb
  have hn1 := hn.mod (m0.trans m1) (fun _ _ _ x => x)
  have hq1 := hq.mod (m0.trans m1) (fun _ _ _ x => x)
  obtain ⟨an, cn, rfl, hcn, _⟩ := hn1.form
  obtain ⟨aq, cq, rfl, hcq, _⟩ := hq1.form
  rw [List.length_map] at *
  have hV' : W.alloc (.cells #[.int .u8 0, .int .u16 0, .int .u32 0, .string { data := #[] }, .int .u32 0, .int .u32 0, .int .u32 0, .int .u16 0, .string { data := #[] }, .string { data := #[] }, .string { data := #[] }, .string { data := #[] }, .slice none 0 0, .int .u8 0, .int .u32 0, .int .u64 0, .slice none 0 0, .int .u8 0, .int .u32 0, .int .u32 0, .int .u64 0, .int .u32 0, .string { data := #[] }, .int .u16 0, .int .u32 0, .int .u8 0, .int .u32 0, .int .u64 0, .int .u32 0, .int .u32 0, .int .u32 0, .int .u64 0, .string { data := #[] }, .string { data := #[] }, .string { data := #[] }, .string { data := #[] }] 33) = V := hV
  have c12 : V.cell? ⟨w.heap.size, 12, none⟩ = some (.slice an m.names.length cn) := (cell_of hb1 12).trans rfl
  have C1 : Hid ((0 + m.names.length) * 16 ≤ 140737488355328) := by show _ ≤ _; omega
  have C2 : Hid (0 + m.names.length ≤ 9223372036854775807) := by show _ ≤ _; omega
  have C5 : Hid (Src Tryz.prog 1 25 (.slice an m.names.length cn) m.names.length (m.names.map Value.string) V) := src_slAt Tryz.underlying25 hn1 (by rw [List.length_map]) (by intro u hu; obtain ⟨y, _, rfl⟩ := List.mem_map.1 hu; rfl)
  have hq0 := hq
  have hVw : w.heap.size < V.heap.size := lt_of hb1
  have hVW : W.heap.size < V.heap.size := lt_of hz
  have F3 : ∀ v3 w3, OwnA w3 V.heap.size 1 v3 (0 + m.names.length) ([] ++ m.names.map Value.string) → Mod (fun k => some k = (Value.slice none 0 0).ownBlock) V w3 →
      ∃ a3 d3 w4, v3 = .slice a3 m.names.length d3 ∧ w3.setCell ⟨w.heap.size, 12, none⟩ (.slice a3 m.names.length d3) = w4 ∧ w3.frozen? ⟨w.heap.size, 12, none⟩ = false ∧ w3.cell? ⟨w.heap.size, 12, none⟩ = some (.slice an m.names.length cn) ∧
        w4.cell? ⟨w.heap.size, 16, none⟩ = some (.slice aq m.qids.length cq) ∧ Hid (w4.heap[w.heap.size]? = some (msgO m (.slice a3 m.names.length d3) (.slice aq m.qids.length cq))) ∧ Hid (w4.heap[W.heap.size]? = some (msgO Msg.zero (.slice none 0 0) (.slice none 0 0))) ∧
        Hid (Mod (fun _ => False) w w4) ∧ Hid (OwnA w4 V.heap.size 1 (.slice a3 m.names.length d3) m.names.length (m.names.map Value.string)) ∧ Hid (V.heap.size ≤ w4.heap.size) ∧
        Hid (Src Tryz.prog 3 29 (.slice aq m.qids.length cq) m.qids.length (flatR Qd.cells m.qids) w4) := by
    intro v3 w3 hown3 hgrow3
    have g3 : Mod (fun _ => False) V w3 := (Mod.refl _ V).trans' hgrow3 (fun k _ x => by cases x)
    have hb3 := (g3.block _ (lt_of hb1) (fun x => x)).trans hb1
    rw [List.nil_append, Nat.zero_add] at hown3
    have hs3 := hown3.slAt.form
    rw [List.length_map] at hs3
    obtain ⟨a3, d3, rfl, _, _⟩ := hs3
    have m4 : Mod (· = w.heap.size) w3 (w3.setCell ⟨w.heap.size, 12, none⟩ (.slice a3 m.names.length d3)) := Mod.set1 _ _ _ _
    have hb4 := heap_set hb3 12 (.slice a3 m.names.length d3)
    have M4 := ((m0.trans m1).trans g3).trans' m4 fun k hk e => by omega
    exact ⟨a3, d3, _, rfl, rfl, free_of hb3 12, (cell_of hb3 12).trans rfl, (cell_of hb4 16).trans rfl, hb4, (m4.block _ (Nat.lt_of_lt_of_le (lt_of hz) g3.size) (by omega)).trans ((g3.block _ (lt_of hz) (fun x => x)).trans hz), M4,
      hown3.mod m4 fun k hk e => (by omega), Nat.le_trans g3.size m4.size, src_recs Tryz.underlying29 (by decide) qd_len (fun q u hu => by simp only [Qd.cells, List.mem_cons, List.not_mem_nil, or_false] at hu; rcases hu with rfl | rfl | rfl <;> rfl) (hq0.mod M4 fun _ _ _ x => x) rfl⟩
  have F5 : ∀ a3 d3 w4 v5 w5, w4.heap[w.heap.size]? = some (msgO m (.slice a3 m.names.length d3) (.slice aq m.qids.length cq)) → w4.heap[W.heap.size]? = some (msgO Msg.zero (.slice none 0 0) (.slice none 0 0)) → Mod (fun _ => False) w w4 → OwnA w4 V.heap.size 1 (.slice a3 m.names.length d3) m.names.length (m.names.map Value.string) → V.heap.size ≤ w4.heap.size →
      OwnA w5 w4.heap.size 3 v5 (0 + m.qids.length) ([] ++ flatR Qd.cells m.qids) → Mod (fun k => some k = (Value.slice none 0 0).ownBlock) w4 w5 →
      ∃ a5 d5 w6, v5 = .slice a5 m.qids.length d5 ∧ w5.setCell ⟨w.heap.size, 16, none⟩ (.slice a5 m.qids.length d5) = w6 ∧ w5.frozen? ⟨w.heap.size, 16, none⟩ = false ∧ w5.cell? ⟨w.heap.size, 16, none⟩ = some (.slice aq m.qids.length cq) ∧
        Hid (w6.heap[w.heap.size]? = some (msgO m (.slice a3 m.names.length d3) (.slice a5 m.qids.length d5))) ∧ Hid (w6.heap[w.heap.size + 1]? = some (msgO Msg.zero (.slice none 0 0) (.slice none 0 0))) ∧
        Hid (Mod (fun _ => False) w w6) ∧ Hid (OwnA w6 V.heap.size 1 (.slice a3 m.names.length d3) m.names.length (m.names.map Value.string)) ∧ Hid (RecsAt Qd.cells 3 w6 (w4.heap.size ≤ ·) (.slice a5 m.qids.length d5) m.qids) := by
    intro a3 d3 w4 v5 w5 hb4 hz4 M4 hn4 hV4 hown5 hgrow5
    have g5 : Mod (fun _ => False) w4 w5 := (Mod.refl _ w4).trans' hgrow5 (fun k _ x => by cases x)
    have hb5 := (g5.block _ (lt_of hb4) (fun x => x)).trans hb4
    rw [List.nil_append] at hown5
    have hr5 := OwnA.recs (cs := Qd.cells) (sz := 3) (by decide) (fun _ => rfl) (l := m.qids) hown5
    obtain ⟨a5, d5, rfl, _, _⟩ := hr5.form
    have m6 : Mod (· = w.heap.size) w5 (w5.setCell ⟨w.heap.size, 16, none⟩ (.slice a5 m.qids.length d5)) := Mod.set1 _ _ _ _
    have hz6 := (m6.block _ (Nat.lt_of_lt_of_le (lt_of hz4) g5.size) (by omega)).trans ((g5.block _ (lt_of hz4) (fun x => x)).trans hz4)
    rw [hsz] at hz6
    exact ⟨a5, d5, _, rfl, rfl, free_of hb5 16, (cell_of hb5 16).trans rfl, heap_set hb5 16 _, hz6, (M4.trans g5).trans' m6 fun k hk e => (by omega), (hn4.mod g5 fun _ _ x => x).mod m6 fun k hk e => (by omega), hr5.mod m6 fun g hg _ e => (by omega)⟩
  have D1 : Hid ((0 + m.qids.length) * 16 ≤ 140737488355328) := by show _ ≤ _; omega
  have D2 : Hid (0 + m.qids.length ≤ 9223372036854775807) := by show _ ≤ _; omega
  clear hb hb1 hz m0 m1 hn hq hn1 hq1 hV hq0
  go_enter Tryz.func16, Tryz.ntmps16
  go_upto_region 2 with (refine wpl_append rfl (.const (.slice none 0 0)) (.tmp 4) _ _ rfl V.heap.size 9 (.string { data := #[] }) 1 16 Tryz.underlying25 info_str rfl (by decide) (.slice none 0 0) 0 [] rfl (OwnA.nil V V.heap.size 1) _ _ _ rfl C5.out C1.out C2.out (Nat.le_refl _) ?_; intro v3 w3 hown3 hgrow3; obtain ⟨a3, d3, w4, rfl, hw4, x12, y12, c16, hb4, hz4, M4, hn4, hV4, D5⟩ := F3 _ _ hown3 hgrow3; clear hown3 hgrow3 F3 c12 hV' hW)
  clear hw4 x12 y12
  go_upto_region 3 with (refine wpl_append rfl (.const (.slice none 0 0)) (.tmp 8) _ _ rfl w4.heap.size 28 (.agg #[.int .u8 0, .int .u32 0, .int .u64 0]) 3 16 Tryz.underlying29 info_qid rfl (by decide) (.slice none 0 0) 0 [] rfl (OwnA.nil w4 w4.heap.size 3) _ _ _ rfl D5.out D1.out D2.out (Nat.le_refl _) ?_; intro v5 w5 hown5 hgrow5; have hlt4 := hn4.out.lt; obtain ⟨a5, d5, w6, rfl, hw6, x16, y16, hb6, HZ6, M6, HN6, HQ6⟩ := F5 _ _ _ _ _ hb4.out hz4.out M4.out hn4.out hV4.out hown5 hgrow5; clear hown5 hgrow5 F5 c16)
  clear hw6 x16 y16 D5 hn4 M4 hz4 hb4
  have hvn : (Value.slice a3 m.names.length d3).oneCell' = true := rfl
  have hvq : (Value.slice a5 m.qids.length d5).oneCell' = true := rfl
  have hV4o : V.heap.size ≤ w4.heap.size := hV4.out
  generalize Value.slice a3 m.names.length d3 = vn3 at *
  generalize Value.slice a5 m.qids.length d5 = vq5 at *
  have hrg : w6.rangeAt w.heap.size 0 (m.cells vn3 vq5) := fun j u hu => by rw [Nat.zero_add, cell_of hb6.out, List.getElem?_toArray]; exact hu
  refine wp_region_lit ?_
  refine wpList_load_mid rfl 33 (.tmp 1) rfl w.heap.size 0 rfl (m.cells vn3 vq5) _ hrg Tryz.underlying33 rfl (by kernel_rfl) ?_
  refine wpl_store_row rfl 33 (.tmp 2) (.tmp 11) rfl rfl (w.heap.size + 1) (m.cells vn3 vq5) rfl rfl 33 _ HZ6.out rfl (msg_one _ _ _ hvn hvq) (by kernel_rfl) ?_
  intro U hv2 mv
  refine wpList_nil ?_
  have hrgU : U.rangeAt (w.heap.size + 1) 0 (m.cells vn3 vq5) := fun j u hu => by rw [Nat.zero_add, cell_of hv2, List.getElem?_toArray]; exact hu
  go_wp2
  refine bodyPost_ret (results_row1 rfl _ _ U (w.heap.size + 1) _ _ rfl hrgU Tryz.underlying33 rfl (by kernel_rfl)) rfl ⟨vn3, vq5, w4.heap.size, rfl, (HN6.out.mod mv fun k hk e => by omega).mono (by omega), fun k hk => (hlt4 k hk).2, HQ6.out.mod mv fun g hg _ e => by omega, M6.out.trans' mv fun k hk e => by omega⟩
theorem OwnA.set {w : World} {base g n cap j : Nat} {xs : List Value} {u : Value} (h : OwnA w base 1 (.slice (some ⟨g, 0, none⟩) n cap) n xs) (hj : j < n) : OwnA (w.setCell ⟨g, j, none⟩ u) base 1 (.slice (some ⟨g, 0, none⟩) n cap) n (xs.set j u) := by
  refine ⟨by rw [List.length_set]; exact h.1, ?_⟩
  rcases h.2 with ⟨h2, _⟩ | ⟨g', cap', h1, h2, h3, h4, h5, h6, h7⟩
  · cases h2
  · injection h1 with e1 e2 e3
    injection e1 with e1
    injection e1 with e1
    subst e1 e3
    have hxl : xs.length = n := by have := h.1; omega
    refine .inr ⟨g, cap, rfl, h2, by rw [World.size_setCell]; exact h3, h4, fun i hi => ?_, fun i hi => by rw [World.frozen?_setCell]; exact h6 i hi, fun i v hi => ?_⟩
    · by_cases e : i = j
      · subst e
        rw [World.cell?_setCell_same' _ _ _ (h5 i hi)]
        rfl
      · rw [World.cell?_setCell_other (w := w) (a := ⟨g, j, none⟩) (b := ⟨g, i, none⟩) (v := u) (h := by intro x; injection x with _ x; exact e x.symm)]
        exact h5 i hi
    · by_cases e : i = j
      · subst e
        rw [List.getElem?_set_self (by omega)] at hi
        rw [World.cell?_setCell_same' _ _ _ (h5 i (by omega))]
        exact hi
      · rw [List.getElem?_set_ne (fun x => e x.symm)] at hi
        rw [World.cell?_setCell_other (w := w) (a := ⟨g, j, none⟩) (b := ⟨g, i, none⟩) (v := u) (h := by intro x; injection x with _ x; exact e x.symm)]
        exact h7 i v hi
theorem OwnA.at {w : World} {base g n cap : Nat} {xs : List Value} (h : OwnA w base 1 (.slice (some ⟨g, 0, none⟩) n cap) n xs) {j : Nat} (hj : j < n) : w.frozen? ⟨g, j, none⟩ = false ∧ (∀ u, xs[j]? = some u → w.cell? ⟨g, j, none⟩ = some u) ∧ g < w.heap.size ∧ base ≤ g := by
  rcases h.2 with ⟨h2, _⟩ | ⟨g', cap', h1, h2, h3, h4, h5, h6, h7⟩
  · cases h2
  · injection h1 with e1 e2 e3
    injection e1 with e1
    injection e1 with e1
    subst e1 e3
    exact ⟨h6 j (by omega), fun u hu => h7 j u hu, h3, h2⟩
end Go.Proofs.YtklpopmjpgdjnaaGreatDoor
