/- Package wire's Shape. -/
import Derived.Test.YtklpopmjpgdjnaaGreatDoorQTurn24
import Derived.Test.YtklpopmjpgdjnaaGreatDoorQBack24
set_option linter.unusedVariables false
set_option linter.unusedSimpArgs false
namespace Go.Proofs.YtklpopmjpgdjnaaGreatDoor
open Go.RowKit

/-- a message of which the first k of the nine texts are turned -/
def part (m : Msg) (k : Nat) : Msg :=
  { m with version := if 0 < k then rep 120 m.version.size else m.version, uname := if 1 < k then rep 120 m.uname.size else m.uname, aname := if 2 < k then rep 120 m.aname.size else m.aname,
           ename := if 3 < k then rep 120 m.ename.size else m.ename, name := if 4 < k then rep 120 m.name.size else m.name,
           stat := { m.stat with n := if 5 < k then rep 120 m.stat.n.size else m.stat.n, u := if 6 < k then rep 120 m.stat.u.size else m.stat.u, g := if 7 < k then rep 120 m.stat.g.size else m.stat.g, m := if 8 < k then rep 120 m.stat.m.size else m.stat.m } }
def ptrs (b : Nat) : Array Value := #[.pointer (some ⟨b, 3, none⟩), .pointer (some ⟨b, 8, none⟩), .pointer (some ⟨b, 9, none⟩), .pointer (some ⟨b, 10, none⟩), .pointer (some ⟨b, 11, none⟩), .pointer (some ⟨b, 32, none⟩), .pointer (some ⟨b, 33, none⟩), .pointer (some ⟨b, 34, none⟩), .pointer (some ⟨b, 35, none⟩)]
theorem part_step (m : Msg) (vn vq : Value) (b : Nat) (hs : m.Small) {k : Nat} (h : k < 9) : ∃ o t, ((part m k).cells vn vq)[o]? = some (.string t) ∧ t.size ≤ 262144 ∧ ((part m k).cells vn vq).toArray.setIfInBounds o (.string (rep 120 t.size)) = ((part m (k + 1)).cells vn vq).toArray ∧
    ∀ w, (Instr.index 86 (.agg (ptrs b)) (.int .i64 k)).run Tryz.prog w = .ok (.pointer (some ⟨b, o, none⟩)) w := by
  have hu := run_underlying (P := Tryz.prog) Tryz.underlying86
  have h9 := Tryz.sizeOf85
  rcases (by omega : k = 0 ∨ k = 1 ∨ k = 2 ∨ k = 3 ∨ k = 4 ∨ k = 5 ∨ k = 6 ∨ k = 7 ∨ k = 8) with rfl | rfl | rfl | rfl | rfl | rfl | rfl | rfl | rfl
  · exact ⟨3, m.version, rfl, hs.version, rfl, fun w => by simp [Instr.index, go_sem, hu, ptrs]⟩
  · exact ⟨8, m.uname, rfl, hs.uname, rfl, fun w => by simp [Instr.index, go_sem, hu, ptrs]⟩
  · exact ⟨9, m.aname, rfl, hs.aname, rfl, fun w => by simp [Instr.index, go_sem, hu, ptrs]⟩
  · exact ⟨10, m.ename, rfl, hs.ename, rfl, fun w => by simp [Instr.index, go_sem, hu, ptrs]⟩
  · exact ⟨11, m.name, rfl, hs.name, rfl, fun w => by simp [Instr.index, go_sem, hu, ptrs]⟩
  · exact ⟨32, m.stat.n, rfl, hs.st.1, rfl, fun w => by simp [Instr.index, go_sem, hu, ptrs]⟩
  · exact ⟨33, m.stat.u, rfl, hs.st.2.1, rfl, fun w => by simp [Instr.index, go_sem, hu, ptrs]⟩
  · exact ⟨34, m.stat.g, rfl, hs.st.2.2.1, rfl, fun w => by simp [Instr.index, go_sem, hu, ptrs]⟩
  · exact ⟨35, m.stat.m, rfl, hs.st.2.2.2, rfl, fun w => by simp [Instr.index, go_sem, hu, ptrs]⟩
/-- what package wire's Shape answers -/
def shapeB (m : Msg) : ByteArray := if (encM m).2 = 0 then (encM (shapeM m)).1 else ByteArray.empty
theorem src_rep (f : ByteArray) (wr : World) : Src Tryz.prog 1 25 (.slice (some ⟨wr.heap.size, 0, none⟩) 1 1) 1 [.string f] (wr.alloc (.cells #[.string f] 9)) :=
  Src.ofSlice _ Tryz.underlying25 _ _ _ _ rfl (fun j u hj => by
    cases j with
    | zero => cases hj; exact (cell_of (new_at wr _) 0).trans rfl
    | succ j => cases hj) (by intro u hu; simp only [List.mem_cons, List.not_mem_nil, or_false] at hu; subst hu; rfl)
set_option maxHeartbeats 4000000 in
set_option maxRecDepth 100000 in
theorem shape24_any (m : Msg) (vn vq : Value) (P : Nat → Prop) (w : World) (hk : m.Ok) (hs : m.Small) (hn : SlAt w P vn (m.names.map .string)) (hq : RecsAt Qd.cells 3 w P vq m.qids) (hT : Tabs w) :
    Calls Tryz.prog 19 #[.agg (m.cells vn vq).toArray] w fun e w' => e = .returned (.string (shapeB m)) ∧ Mod (fun _ => False) w w' := by
  obtain ⟨W, hW⟩ : ∃ W, w.alloc (.cells (m.cells vn vq).toArray 33) = W := ⟨_, rfl⟩
  have hb : W.heap[w.heap.size]? = some (msgO m vn vq) := by subst hW; exact new_at _ _
  have m0 : Mod (fun _ => False) w W := by subst hW; exact (Mod.refl _ w).alloc _
  have hrg : W.rangeAt w.heap.size 0 (m.cells vn vq) := fun j u hu => by rw [Nat.zero_add, cell_of hb, List.getElem?_toArray]; exact hu
  have hlen : (m.cells vn vq).length = 36 := rfl
  have hM := may_lt m vn vq P W hk hs (hn.mod m0 fun _ _ _ x => x) (hq.mod m0 fun _ _ _ x => x) (hT.mod m0)
  have HV : Hid (shapeB m = if (encM m).2 = 0 then (encM (shapeM m)).1 else ByteArray.empty) := rfl
  have HB := Lib.hid hb
  have HN := Lib.hid hn
  have HQ := Lib.hid hq
  have HT := Lib.hid hT
  have M0 := Lib.hid m0
  clear hb hn hq hT m0
  go_enter Tryz.func19, Tryz.ntmps19
  by_cases he : (encM m).2 = 0
  case neg =>
    have q1 : ((encM m).2 != 0) = true := by simp [he]
    have HF : Hid (shapeB m = ByteArray.empty) := HV.out.trans (if_neg he)
    generalize (encM m).2 = er at *
    clear he HV
    go_wp2_with (first
      | refine wpList_load_mid rfl 33 (.tmp 1) rfl w.heap.size 0 rfl (m.cells vn vq) _ hrg Tryz.underlying33 rfl (by kernel_rfl) ?_
      | (go_at_call 17; refine hM.mono ?_; rintro e w1 ⟨rfl, m1⟩))
    go_ret
    exact ⟨by rw [HF.out]; rfl, M0.out.trans m1⟩
  have q1 : ((encM m).2 != 0) = false := by simp [he]
  have HF : Hid (shapeB m = (encM (shapeM m)).1) := HV.out.trans (if_pos he)
  generalize (encM m).2 = er at *
  clear he HV
  go_wp2_with (first
    | refine wpList_load_mid rfl 33 (.tmp 1) rfl w.heap.size 0 rfl (m.cells vn vq) _ hrg Tryz.underlying33 rfl (by kernel_rfl) ?_
    | (go_at_call 17; refine hM.mono ?_; rintro e w1 ⟨rfl, m1⟩; have HB1 := Lib.hid ((m1.block _ (lt_of HB.out) (fun x => x)).trans HB.out); have M1 := Lib.hid (M0.out.trans m1); clear hM hrg m1 hW))
  obtain ⟨b, hbb⟩ : ∃ b, w.heap.size = b := ⟨_, rfl⟩
  have hp0 : part m 0 = m := rfl
  have hbs : ∀ U, Mod (fun _ => False) w U → w.heap.size ≤ U.heap.size := fun U h => h.size
  rw [hbb] at HB1 ⊢
  go_loopw [4, 27] (fun _ i wr => ∃ k : Nat, k ≤ 9 ∧ i = .int .i64 k ∧ Hid (wr.heap[b]? = some (msgO (part m k) vn vq)) ∧ Hid (Mod (fun _ => False) w wr)) (fun _ i _ => 9 - (intOf i).toNat)
  case atStart => exact ⟨0, by omega, rfl, HB1, M1⟩
  case round =>
    clear HB1 M1
    obtain ⟨k, hk9, rfl, HB, MM⟩ := hrel
    by_cases hkl : k < 9
    · obtain ⟨o, t, ho, ht, hset, hix⟩ := part_step m vn vq b hs hkl
      have t1 : decide ((k : Int) < 9) = true := by simp; omega
      have c0 : wr.cell? ⟨b, o, none⟩ = some (.string t) := by rw [cell_of HB.out, List.getElem?_toArray]; exact ho
      have hR := repeat_any 120 t.size wr ht
      unfold ptrs at hix
      go_wp2_with fail
      refine hR.mono ?_
      rintro e w2 ⟨rfl, m2⟩
      have hb2 := (m2.block _ (lt_of HB.out) (fun x => x)).trans HB.out
      have c1 := keepR m2 c0
      have xf : w2.frozen? ⟨b, o, none⟩ = false := free_of hb2 o
      obtain ⟨W3, hW3⟩ : ∃ W3, w2.setCell ⟨b, o, none⟩ (.string (rep 120 t.size)) = W3 := ⟨_, rfl⟩
      have HB3 : Hid (W3.heap[b]? = some (msgO (part m (k + 1)) vn vq)) := by
        rw [← hW3]
        have := heap_set hb2 o (.string (rep 120 t.size))
        rw [hset] at this
        exact this
      have MM3 : Hid (Mod (fun _ => False) w W3) := by
        rw [← hW3]
        exact (MM.out.trans m2).trans' (Mod.set1 w2 b o _) fun j hj e => by omega
      clear hR m2 hb2 c0 ho hset
      go_wp2
      go_roundw
      case rel => exact ⟨k + 1, by omega, by go_num, HB3, MM3⟩
      case measure => simp [intOf]; omega
    · obtain rfl : k = 9 := by omega
      have t1 : decide ((9 : Int) < 9) = false := by decide
      have hb := HB.out
      have hdt : m.data.size ≤ 262144 := hs.data
      have c22 : wr.cell? ⟨b, 22, none⟩ = some (.string m.data) := (cell_of hb 22).trans rfl
      have hR := repeat_any 0 m.data.size wr hdt
      clear hb
      go_wp2_with fail
      refine hR.mono ?_
      rintro e w2 ⟨rfl, m2⟩
      have hb2 := (m2.block _ (lt_of HB.out) (fun x => x)).trans HB.out
      obtain ⟨an, cn, rfl, hcn, hvx⟩ := HN.out.form
      rw [List.length_map] at *
      have c22 := keepR m2 c22
      have xf : w2.frozen? ⟨b, 22, none⟩ = false := free_of hb2 22
      obtain ⟨W3, hW3⟩ : ∃ W3, w2.setCell ⟨b, 22, none⟩ (.string (rep 0 m.data.size)) = W3 := ⟨_, rfl⟩
      have hb3 : W3.heap[b]? = some (msgO (shapeM m) (.slice an m.names.length cn) vq) := by
        rw [← hW3]
        exact heap_set hb2 22 (.string (rep 0 m.data.size))
      have m3 : Mod (fun _ => False) w W3 := by
        rw [← hW3]
        exact (MM.out.trans m2).trans' (Mod.set1 w2 b 22 _) fun j hj e => by omega
      have c12 : W3.cell? ⟨b, 12, none⟩ = some (.slice an m.names.length cn) := (cell_of hb3 12).trans rfl
      have x12 : W3.frozen? ⟨b, 12, none⟩ = false := free_of hb3 12
      obtain ⟨W4, hW4⟩ : ∃ W4, W3.setCell ⟨b, 12, none⟩ (.slice none 0 0) = W4 := ⟨_, rfl⟩
      have HB4 : Hid (W4.heap[b]? = some (msgO (shapeM m) (.slice none 0 0) vq)) := by
        rw [← hW4]
        exact heap_set hb3 12 (.slice none 0 0)
      have M4 : Hid (Mod (fun _ => False) w W4) := by
        rw [← hW4]
        exact m3.trans' (Mod.set1 W3 b 12 _) fun j hj e => by omega
      have hbl : b < W4.heap.size := lt_of HB4.out
      have nl := hs.nl
      clear hR m2 hb2 hb3 m3 HB MM
      go_wp2
      clear hW3 hW4 xf x12 c12 c22
      have hsl : (shapeM m).names.length = m.names.length := List.length_map _
      go_loopw [7, 48] (fun _ i wr => ∃ (j : Nat) (v : Value), j ≤ m.names.length ∧ i = .int .i64 j ∧ Hid (wr.heap[b]? = some (msgO (shapeM m) v vq)) ∧ Hid (OwnA wr W4.heap.size 1 v j (((shapeM m).names.take j).map Value.string)) ∧ Hid (Mod (· = b) W4 wr)) (fun _ i _ => m.names.length - (intOf i).toNat)
      case atStart => exact ⟨0, _, Nat.zero_le _, rfl, HB4, Lib.hid (OwnA.nil _ _ _), Lib.hid (Mod.refl _ _)⟩
      case round =>
        obtain ⟨j, v, hj, rfl, HBr, HO, MW⟩ := hrel
        by_cases hjl : j < m.names.length
        · obtain ⟨g, off, rfl, hg, hgl, hc⟩ := hvx j _ (strs_get hjl)
          have c0 := keepR (M4.out.trans' MW.out fun k hk e => by omega) hc
          have t2 : decide ((j : Int) < (m.names.length : Int)) = true := by simp; omega
          have j1 : (0 : Int) ≤ (j : Int) := by omega
          have j2 : (j : Int) < (m.names.length : Int) := by omega
          have hts := hs.names _ (List.getElem_mem hjl)
          have HTk : Hid ((shapeM m).names.take (j + 1) = (shapeM m).names.take j ++ [rep 120 m.names[j].size]) := by
            show _ = _
            rw [List.take_succ_eq_append_getElem (by rw [hsl]; exact hjl)]
            congr 2
            exact List.getElem_map _
          generalize m.names[j] = t at *
          obtain ⟨a3, d3, rfl, hd3, _⟩ := HO.out.slAt.form
          rw [List.length_map, List.length_take, hsl, show min j m.names.length = j from by omega] at HO HBr hd3
          have hW4r : W4.heap.size ≤ wr.heap.size := MW.out.size
          have cA : wr.drew.cell? ⟨b, 12, none⟩ = some (.slice a3 j d3) := (cell_of (w := wr.drew) HBr.out 12).trans rfl
          have hR := fun U => repeat_any 120 t.size U hts
          clear hc
          go_wp2
          refine wp_region_any (by kernel_rfl) ?_
          change wpAny _ _ _ _ _ _ _ (World.drew _)
          refine wpAny_take (i := 0) (v := ?_) rfl (by kernel_rfl) (by kernel_rfl) (by kernel_rfl) (fun _ _ _ h => h) (Or.inl ⟨by rfl, ?_⟩) ?_
          rotate_left
          · intro w; go_simp
            all_goals with_reducible rfl
          refine wpAny_take (i := 2) (v := ?_) rfl (by kernel_rfl) (by kernel_rfl) (by kernel_rfl) (fun _ _ _ h => h) (Or.inl ⟨by rfl, ?_⟩) ?_
          rotate_left
          · intro w; go_simp
            all_goals with_reducible rfl
          refine wpAny_take (i := 3) (v := ?_) rfl (by kernel_rfl) (by kernel_rfl) (by kernel_rfl) (fun _ _ _ h => h) (Or.inl ⟨by rfl, ?_⟩) ?_
          rotate_left
          · intro w; go_simp
            all_goals with_reducible rfl
          refine wpAny_ready (rs := [1, 4]) (by kernel_rfl) (by simp) ?_
          refine AllReady.cons rfl (fun K hK => ?_) ?_
          rotate_left
          refine AllReady.cons rfl (fun K hK => ?_) AllReady.nil
          · go_simp
            refine (hR _).mono ?_
            rintro e w5 ⟨rfl, m5⟩
            refine hK _ _ ?_
            clear hK K
            have hb5 := ((Mod.refl (fun _ => False) wr).drew.trans m5).block _ (lt_of HBr.out) (fun x => x) |>.trans HBr.out
            have cB : w5.cell? ⟨b, 12, none⟩ = some (.slice a3 j d3) := (cell_of hb5 12).trans rfl
            have m55 : Mod (fun _ => False) wr (w5.alloc (.cells #[.string (rep 120 t.size)] 9)) := ((Mod.refl (fun _ => False) wr).drew.trans m5).alloc _
            have hbC := (m55.block _ (lt_of HBr.out) (fun x => x)).trans HBr.out
            have cC : (w5.alloc (.cells #[.string (rep 120 t.size)] 9)).cell? ⟨b, 12, none⟩ = some (.slice a3 j d3) := (cell_of hbC 12).trans rfl
            refine wpAny_ready (rs := [1, 5]) (by kernel_rfl) (by simp) ?_
            refine AllReady.cons rfl (fun K hK => ?_) ?_
            rotate_left
            refine AllReady.cons rfl (fun K hK => ?_) AllReady.nil
            · go_simp
              refine hK _ _ ?_
              clear hK K
              refine wpAny_ready (rs := [1]) (by kernel_rfl) (by simp) ?_
              refine AllReady.cons rfl (fun K hK => ?_) AllReady.nil
              go_simp
              refine hK _ _ ?_
              clear hK K
              have A1 : Hid (OwnA (w5.alloc (.cells #[.string (rep 120 t.size)] 9)) W4.heap.size 1 (.slice a3 j d3) j (((shapeM m).names.take j).map Value.string)) := HO.out.mod m55 (fun _ _ x => x)
              have A2 := src_rep (rep 120 t.size) w5
              have A5 : W4.heap.size ≤ (w5.alloc (.cells #[.string (rep 120 t.size)] 9)).heap.size := Nat.le_trans hW4r m55.size
              refine wpAny_ready (rs := [6]) (by kernel_rfl) (by simp) ?_
              refine AllReady.cons rfl (fun K hK => ?_) AllReady.nil
              refine op_append (.tmp 53) (.tmp 57) _ _ rfl W4.heap.size 9 (.string { data := #[] }) 1 16 Tryz.underlying25 info_str rfl (by decide) (.slice a3 j d3) j _ rfl A1.out _ 1 _ rfl A2 (by omega) (by omega) A5 ?_
              intro v' w6 hown' hgrow _
              refine hK _ _ ?_
              clear hK K
              try simp only [Act.put, List.setIfInBounds_toArray, List.set_cons_zero, List.set_cons_succ]
              have hfm := hown'.slAt.form
              rw [List.length_append, List.length_map, List.length_take, hsl, show min j m.names.length = j from by omega, List.length_singleton] at hfm
              obtain ⟨a6, d6, rfl, _, _⟩ := hfm
              have hlt := A1.out.lt
              have hb6 := (hgrow.block _ (lt_of hbC) (fun e => by have := (hlt _ e).1; omega)).trans hbC
              have c6 : w6.cell? ⟨b, 12, none⟩ = some (.slice a3 j d3) := (cell_of hb6 12).trans rfl
              have x6 : w6.frozen? ⟨b, 12, none⟩ = false := free_of hb6 12
              have g6 : Mod (· = b) W4 w6 := A1.out.thenMod (MW.out.trans (m55.mono fun _ _ x => x.elim)) hgrow (Nat.le_refl _)
              obtain ⟨W7, hW7⟩ : ∃ W7, w6.setCell ⟨b, 12, none⟩ (.slice a6 (j + 1) d6) = W7 := ⟨_, rfl⟩
              have hb7 : W7.heap[b]? = some (msgO (shapeM m) (.slice a6 (j + 1) d6) vq) := by rw [← hW7]; exact heap_set hb6 12 _
              have m7 : Mod (· = b) w6 W7 := by rw [← hW7]; exact Mod.set1 _ _ _ _
              refine wpAny_ready (rs := [7]) (by kernel_rfl) (by simp) ?_
              refine AllReady.cons rfl (fun K hK => ?_) AllReady.nil
              go_simp
              refine hK _ _ ?_
              clear hK K
              refine wpAny_ready (rs := [8]) (by kernel_rfl) (by simp) ?_
              refine AllReady.cons rfl (fun K hK => ?_) AllReady.nil
              go_simp
              refine hK _ _ ?_
              clear hK K
              refine wpAny_done (by kernel_rfl) ?_ _
              clear hW7 x6 c6
              go_wp2
              go_roundw
              case measure => simp [intOf]; omega
              case rel => exact ⟨j + 1, _, hjl, by go_num, hb7, (by rw [HTk.out, List.map_append]; exact hown'.modB m7 (fun k hk e => by have := (hown'.lt k hk).1; omega)), g6.trans m7⟩
            · go_simp
              refine hK _ _ ?_
              clear hK K
              refine wpAny_ready (rs := [5]) (by kernel_rfl) (by simp) ?_
              refine AllReady.cons rfl (fun K hK => ?_) AllReady.nil
              go_simp
              refine hK _ _ ?_
              clear hK K
              have A1 : Hid (OwnA (w5.alloc (.cells #[.string (rep 120 t.size)] 9)) W4.heap.size 1 (.slice a3 j d3) j (((shapeM m).names.take j).map Value.string)) := HO.out.mod m55 (fun _ _ x => x)
              have A2 := src_rep (rep 120 t.size) w5
              have A5 : W4.heap.size ≤ (w5.alloc (.cells #[.string (rep 120 t.size)] 9)).heap.size := Nat.le_trans hW4r m55.size
              refine wpAny_ready (rs := [6]) (by kernel_rfl) (by simp) ?_
              refine AllReady.cons rfl (fun K hK => ?_) AllReady.nil
              refine op_append (.tmp 53) (.tmp 57) _ _ rfl W4.heap.size 9 (.string { data := #[] }) 1 16 Tryz.underlying25 info_str rfl (by decide) (.slice a3 j d3) j _ rfl A1.out _ 1 _ rfl A2 (by omega) (by omega) A5 ?_
              intro v' w6 hown' hgrow _
              refine hK _ _ ?_
              clear hK K
              try simp only [Act.put, List.setIfInBounds_toArray, List.set_cons_zero, List.set_cons_succ]
              have hfm := hown'.slAt.form
              rw [List.length_append, List.length_map, List.length_take, hsl, show min j m.names.length = j from by omega, List.length_singleton] at hfm
              obtain ⟨a6, d6, rfl, _, _⟩ := hfm
              have hlt := A1.out.lt
              have hb6 := (hgrow.block _ (lt_of hbC) (fun e => by have := (hlt _ e).1; omega)).trans hbC
              have c6 : w6.cell? ⟨b, 12, none⟩ = some (.slice a3 j d3) := (cell_of hb6 12).trans rfl
              have x6 : w6.frozen? ⟨b, 12, none⟩ = false := free_of hb6 12
              have g6 : Mod (· = b) W4 w6 := A1.out.thenMod (MW.out.trans (m55.mono fun _ _ x => x.elim)) hgrow (Nat.le_refl _)
              obtain ⟨W7, hW7⟩ : ∃ W7, w6.setCell ⟨b, 12, none⟩ (.slice a6 (j + 1) d6) = W7 := ⟨_, rfl⟩
              have hb7 : W7.heap[b]? = some (msgO (shapeM m) (.slice a6 (j + 1) d6) vq) := by rw [← hW7]; exact heap_set hb6 12 _
              have m7 : Mod (· = b) w6 W7 := by rw [← hW7]; exact Mod.set1 _ _ _ _
              refine wpAny_ready (rs := [7]) (by kernel_rfl) (by simp) ?_
              refine AllReady.cons rfl (fun K hK => ?_) AllReady.nil
              go_simp
              refine hK _ _ ?_
              clear hK K
              refine wpAny_ready (rs := [8]) (by kernel_rfl) (by simp) ?_
              refine AllReady.cons rfl (fun K hK => ?_) AllReady.nil
              go_simp
              refine hK _ _ ?_
              clear hK K
              refine wpAny_done (by kernel_rfl) ?_ _
              clear hW7 x6 c6
              go_wp2
              go_roundw
              case measure => simp [intOf]; omega
              case rel => exact ⟨j + 1, _, hjl, by go_num, hb7, (by rw [HTk.out, List.map_append]; exact hown'.modB m7 (fun k hk e => by have := (hown'.lt k hk).1; omega)), g6.trans m7⟩
          · go_simp
            refine hK _ _ ?_
            clear hK K
            refine wpAny_ready (rs := [4]) (by kernel_rfl) (by simp) ?_
            refine AllReady.cons rfl (fun K hK => ?_) AllReady.nil
            go_simp
            refine (hR _).mono ?_
            rintro e w5 ⟨rfl, m5⟩
            refine hK _ _ ?_
            clear hK K
            have hb5 := ((Mod.refl (fun _ => False) wr).drew.trans m5).block _ (lt_of HBr.out) (fun x => x) |>.trans HBr.out
            have cB : w5.cell? ⟨b, 12, none⟩ = some (.slice a3 j d3) := (cell_of hb5 12).trans rfl
            have m55 : Mod (fun _ => False) wr (w5.alloc (.cells #[.string (rep 120 t.size)] 9)) := ((Mod.refl (fun _ => False) wr).drew.trans m5).alloc _
            have hbC := (m55.block _ (lt_of HBr.out) (fun x => x)).trans HBr.out
            have cC : (w5.alloc (.cells #[.string (rep 120 t.size)] 9)).cell? ⟨b, 12, none⟩ = some (.slice a3 j d3) := (cell_of hbC 12).trans rfl
            refine wpAny_ready (rs := [5]) (by kernel_rfl) (by simp) ?_
            refine AllReady.cons rfl (fun K hK => ?_) AllReady.nil
            go_simp
            refine hK _ _ ?_
            clear hK K
            have A1 : Hid (OwnA (w5.alloc (.cells #[.string (rep 120 t.size)] 9)) W4.heap.size 1 (.slice a3 j d3) j (((shapeM m).names.take j).map Value.string)) := HO.out.mod m55 (fun _ _ x => x)
            have A2 := src_rep (rep 120 t.size) w5
            have A5 : W4.heap.size ≤ (w5.alloc (.cells #[.string (rep 120 t.size)] 9)).heap.size := Nat.le_trans hW4r m55.size
            refine wpAny_ready (rs := [6]) (by kernel_rfl) (by simp) ?_
            refine AllReady.cons rfl (fun K hK => ?_) AllReady.nil
            refine op_append (.tmp 53) (.tmp 57) _ _ rfl W4.heap.size 9 (.string { data := #[] }) 1 16 Tryz.underlying25 info_str rfl (by decide) (.slice a3 j d3) j _ rfl A1.out _ 1 _ rfl A2 (by omega) (by omega) A5 ?_
            intro v' w6 hown' hgrow _
            refine hK _ _ ?_
            clear hK K
            try simp only [Act.put, List.setIfInBounds_toArray, List.set_cons_zero, List.set_cons_succ]
            have hfm := hown'.slAt.form
            rw [List.length_append, List.length_map, List.length_take, hsl, show min j m.names.length = j from by omega, List.length_singleton] at hfm
            obtain ⟨a6, d6, rfl, _, _⟩ := hfm
            have hlt := A1.out.lt
            have hb6 := (hgrow.block _ (lt_of hbC) (fun e => by have := (hlt _ e).1; omega)).trans hbC
            have c6 : w6.cell? ⟨b, 12, none⟩ = some (.slice a3 j d3) := (cell_of hb6 12).trans rfl
            have x6 : w6.frozen? ⟨b, 12, none⟩ = false := free_of hb6 12
            have g6 : Mod (· = b) W4 w6 := A1.out.thenMod (MW.out.trans (m55.mono fun _ _ x => x.elim)) hgrow (Nat.le_refl _)
            obtain ⟨W7, hW7⟩ : ∃ W7, w6.setCell ⟨b, 12, none⟩ (.slice a6 (j + 1) d6) = W7 := ⟨_, rfl⟩
            have hb7 : W7.heap[b]? = some (msgO (shapeM m) (.slice a6 (j + 1) d6) vq) := by rw [← hW7]; exact heap_set hb6 12 _
            have m7 : Mod (· = b) w6 W7 := by rw [← hW7]; exact Mod.set1 _ _ _ _
            refine wpAny_ready (rs := [7]) (by kernel_rfl) (by simp) ?_
            refine AllReady.cons rfl (fun K hK => ?_) AllReady.nil
            go_simp
            refine hK _ _ ?_
            clear hK K
            refine wpAny_ready (rs := [8]) (by kernel_rfl) (by simp) ?_
            refine AllReady.cons rfl (fun K hK => ?_) AllReady.nil
            go_simp
            refine hK _ _ ?_
            clear hK K
            refine wpAny_done (by kernel_rfl) ?_ _
            clear hW7 x6 c6
            go_wp2
            go_roundw
            case measure => simp [intOf]; omega
            case rel => exact ⟨j + 1, _, hjl, by go_num, hb7, (by rw [HTk.out, List.map_append]; exact hown'.modB m7 (fun k hk e => by have := (hown'.lt k hk).1; omega)), g6.trans m7⟩
        · obtain rfl : j = m.names.length := by omega
          have t2 : decide ((m.names.length : Int) < (m.names.length : Int)) = false := by simp
          have hsz := shapeM_sz m
          have hnr : SlAt wr (W4.heap.size ≤ ·) v ((shapeM m).names.map Value.string) := by
            have := HO.out.slAt
            rw [← hsl, List.take_length] at this
            exact this
          have MF : Hid (Mod (fun _ => False) w wr) := M4.out.trans' MW.out fun k hk e => by omega
          have hE := enc_lt (shapeM m) v vq _ wr (hsz.ok hk) (hsz.small hs) (hnr.lt'.imp (Q := fun _ => True) fun _ _ => trivial) ((HQ.out.mod MF.out fun _ _ _ x => x).imp fun _ _ => trivial) (HT.out.mod MF.out)
          have hrg : wr.rangeAt b 0 ((shapeM m).cells v vq) := fun j u hu => by rw [Nat.zero_add, cell_of HBr.out, List.getElem?_toArray]; exact hu
          have hlen2 : ((shapeM m).cells v vq).length = 36 := rfl
          clear hnr hvx HO
          go_wp2_with (first
            | refine wpList_load_mid rfl 33 (.tmp 1) rfl b 0 rfl ((shapeM m).cells v vq) _ hrg Tryz.underlying33 rfl (by kernel_rfl) ?_
            | (go_at_call 15; refine hE.mono ?_; rintro e w8 ⟨rfl, m8⟩))
          go_ret
          exact ⟨by rw [HF.out]; rfl, MF.out.trans m8⟩
end Go.Proofs.YtklpopmjpgdjnaaGreatDoor
