/- Package dir's Check, Find, List, Count. -/
import Derived.Test.YtfkmfllhlhefdaaDoorDirLoad2
namespace Go.Proofs.YtfkmfllhlhefdaaDoor
open Go.RowKit

theorem NamesAt.form {W : World} {v : Value} {l : List Ent} (h : NamesAt W v l) : ∃ o, v = .map o := by
  rcases h with ⟨rfl, _⟩ | ⟨b, n, rfl, _⟩ <;> exact ⟨_, rfl⟩
theorem PathsAt.form {W : World} {v : Value} {l : List Ent} (h : PathsAt W v l) : ∃ o, v = .map o := by
  rcases h with ⟨rfl, _⟩ | ⟨b, n, rfl, _⟩ <;> exact ⟨_, rfl⟩
def okE (b : Bool) (e : Int) : Int := if b = true then 0 else e
set_option maxHeartbeats 1000000 in
set_option maxRecDepth 100000 in
theorem check_any (s : ByteArray) (w : World) (hs : s.size ≤ 1099511627776) (hT : Tabs w) :
    Calls Tryd.prog 15 #[.string s] w fun e w' => e = .returned (.int .i64 (okE (listS s).isSome 51)) ∧ Mod (fun _ => False) w w' := by
  go_enter Tryd.func15, Tryd.ntmps15
  go_wp2_with fail
  refine (load_any s _ hs hT).mono ?_
  rintro e w1 ⟨mn, mp, sl, f, rfl, hO⟩
  obtain ⟨oN, oP, oL, oF, oM⟩ := hO
  obtain ⟨sa, sc, hsl, hsc, hsx⟩ := oL.form
  obtain ⟨mn, rfl⟩ := oN.form
  obtain ⟨mp, rfl⟩ := oP.form
  subst hsl
  generalize hsn : ((listS s).getD []).length = sn at *
  obtain ⟨W2, hW2⟩ : ∃ W2, w1.alloc (.cells #[.map mn, .map mp, .slice sa sn sc, .int .i64 f] 58) = W2 := ⟨_, rfl⟩
  have hb2 : W2.heap[w1.heap.size]? = some (.cells #[.map mn, .map mp, .slice sa sn sc, .int .i64 f] 58 (0, 0)) := by subst hW2; exact new_at _ _
  have m2 : Mod (fun _ => False) w1 W2 := by subst hW2; exact (Mod.refl _ _).alloc _
  have oN := oN.mod m2
  have oP := oP.mod m2
  have oL := oL.mod m2 (fun g _ _ x => x)
  have m2 := oM.trans m2
  have hT2 := hT.mod m2
  have q0 : W2.cell? ⟨w1.heap.size, 0, none⟩ = some (.map mn) := (cell_of hb2 0).trans rfl
  have q1 : W2.cell? ⟨w1.heap.size, 1, none⟩ = some (.map mp) := (cell_of hb2 1).trans rfl
  have q2 : W2.cell? ⟨w1.heap.size, 2, none⟩ = some (.slice sa sn sc) := (cell_of hb2 2).trans rfl
  have q3 : W2.cell? ⟨w1.heap.size, 3, none⟩ = some (.int .i64 f) := (cell_of hb2 3).trans rfl
  clear hb2 oM hsx
  clear oN oP oL oF hsc hsn
  cases hl : listS s with
  | none =>
    go_wp2
    go_ret
    exact ⟨by rw [hl]; rfl, m2⟩
  | some l =>
    go_wp2
    go_ret
    exact ⟨by rw [hl]; rfl, m2⟩
set_option maxHeartbeats 1000000 in
set_option maxRecDepth 100000 in
theorem count_any (s : ByteArray) (w : World) (hs : s.size ≤ 1099511627776) (hT : Tabs w) :
    Calls Tryd.prog 16 #[.string s] w fun e w' => e = .returned (.int .i64 (countS s)) ∧ Mod (fun _ => False) w w' := by
  go_enter Tryd.func16, Tryd.ntmps16
  go_wp2_with fail
  refine (load_any s _ hs hT).mono ?_
  rintro e w1 ⟨mn, mp, sl, f, rfl, hO⟩
  obtain ⟨oN, oP, oL, oF, oM⟩ := hO
  obtain ⟨sa, sc, hsl, hsc, hsx⟩ := oL.form
  obtain ⟨mn, rfl⟩ := oN.form
  obtain ⟨mp, rfl⟩ := oP.form
  subst hsl
  generalize hsn : ((listS s).getD []).length = sn at *
  obtain ⟨W2, hW2⟩ : ∃ W2, w1.alloc (.cells #[.map mn, .map mp, .slice sa sn sc, .int .i64 f] 58) = W2 := ⟨_, rfl⟩
  have hb2 : W2.heap[w1.heap.size]? = some (.cells #[.map mn, .map mp, .slice sa sn sc, .int .i64 f] 58 (0, 0)) := by subst hW2; exact new_at _ _
  have m2 : Mod (fun _ => False) w1 W2 := by subst hW2; exact (Mod.refl _ _).alloc _
  have oN := oN.mod m2
  have oP := oP.mod m2
  have oL := oL.mod m2 (fun g _ _ x => x)
  have m2 := oM.trans m2
  have hT2 := hT.mod m2
  have q0 : W2.cell? ⟨w1.heap.size, 0, none⟩ = some (.map mn) := (cell_of hb2 0).trans rfl
  have q1 : W2.cell? ⟨w1.heap.size, 1, none⟩ = some (.map mp) := (cell_of hb2 1).trans rfl
  have q2 : W2.cell? ⟨w1.heap.size, 2, none⟩ = some (.slice sa sn sc) := (cell_of hb2 2).trans rfl
  have q3 : W2.cell? ⟨w1.heap.size, 3, none⟩ = some (.int .i64 f) := (cell_of hb2 3).trans rfl
  clear hb2 oM hsx
  have hc : countS s = sn := hsn
  have hc := Lib.hid hc
  clear oN oP oL oF hsc hsn
  generalize (listS s).isSome = is at *
  go_wp2
  go_ret
  exact ⟨by rw [hc.out]; rfl, m2⟩
set_option maxHeartbeats 1000000 in
set_option maxRecDepth 100000 in
theorem list_any (s : ByteArray) (w : World) (hs : s.size ≤ 1099511627776) (hT : Tabs w) :
    Calls Tryd.prog 18 #[.string s] w fun e w' => ∃ v, e = .returned (.tuple #[v, .int .i64 (okE (listS s).isSome 51)]) ∧ EntsAt w' (w.heap.size ≤ ·) v ((listS s).getD []) ∧ Mod (fun _ => False) w w' := by
  go_enter Tryd.func18, Tryd.ntmps18
  go_wp2_with fail
  refine (load_any s _ hs hT).mono ?_
  rintro e w1 ⟨mn, mp, sl, f, rfl, hO⟩
  obtain ⟨oN, oP, oL, oF, oM⟩ := hO
  obtain ⟨sa, sc, hsl, hsc, hsx⟩ := oL.form
  obtain ⟨mn, rfl⟩ := oN.form
  obtain ⟨mp, rfl⟩ := oP.form
  subst hsl
  generalize hsn : ((listS s).getD []).length = sn at *
  obtain ⟨W2, hW2⟩ : ∃ W2, w1.alloc (.cells #[.map mn, .map mp, .slice sa sn sc, .int .i64 f] 58) = W2 := ⟨_, rfl⟩
  have hb2 : W2.heap[w1.heap.size]? = some (.cells #[.map mn, .map mp, .slice sa sn sc, .int .i64 f] 58 (0, 0)) := by subst hW2; exact new_at _ _
  have m2 : Mod (fun _ => False) w1 W2 := by subst hW2; exact (Mod.refl _ _).alloc _
  have oN := oN.mod m2
  have oP := oP.mod m2
  have oL := oL.mod m2 (fun g _ _ x => x)
  have m2 := oM.trans m2
  have hT2 := hT.mod m2
  have q0 : W2.cell? ⟨w1.heap.size, 0, none⟩ = some (.map mn) := (cell_of hb2 0).trans rfl
  have q1 : W2.cell? ⟨w1.heap.size, 1, none⟩ = some (.map mp) := (cell_of hb2 1).trans rfl
  have q2 : W2.cell? ⟨w1.heap.size, 2, none⟩ = some (.slice sa sn sc) := (cell_of hb2 2).trans rfl
  have q3 : W2.cell? ⟨w1.heap.size, 3, none⟩ = some (.int .i64 f) := (cell_of hb2 3).trans rfl
  clear hb2 oM hsx
  clear oN oP oF
  cases hl : listS s with
  | none =>
    clear hsn hsc oL
    go_wp2
    go_ret2
    exact ⟨.slice none 0 0, by rw [hl]; rfl, by rw [hl]; exact RecsAt.nil _ _, m2⟩
  | some l =>
    rw [hl] at oL
    simp only [Option.getD_some] at oL
    have oL := Lib.hid oL
    clear hsn
    go_wp2
    go_ret2
    exact ⟨.slice sa sn sc, by rw [hl]; rfl, by rw [hl]; exact oL.out, m2⟩
set_option maxHeartbeats 1000000 in
set_option maxRecDepth 100000 in
theorem find_any (s n : ByteArray) (w : World) (hs : s.size ≤ 1099511627776) (hn : n.size ≤ 1099511627776) (hT : Tabs w) :
    Calls Tryd.prog 19 #[.string s, .string n] w fun e w' => e = .returned (.tuple #[.int .i64 (findS s n).1, .int .u64 (findS s n).2]) ∧ Mod (fun _ => False) w w' := by
  go_enter Tryd.func19, Tryd.ntmps19
  go_wp2_with fail
  refine (load_any s _ hs hT).mono ?_
  rintro e w1 ⟨mn, mp, sl, f, rfl, hO⟩
  obtain ⟨oN, oP, oL, oF, oM⟩ := hO
  obtain ⟨sa, sc, hsl, hsc, hsx⟩ := oL.form
  obtain ⟨mn, rfl⟩ := oN.form
  obtain ⟨mp, rfl⟩ := oP.form
  subst hsl
  generalize hsn : ((listS s).getD []).length = sn at *
  obtain ⟨W2, hW2⟩ : ∃ W2, w1.alloc (.cells #[.map mn, .map mp, .slice sa sn sc, .int .i64 f] 58) = W2 := ⟨_, rfl⟩
  have hb2 : W2.heap[w1.heap.size]? = some (.cells #[.map mn, .map mp, .slice sa sn sc, .int .i64 f] 58 (0, 0)) := by subst hW2; exact new_at _ _
  have m2 : Mod (fun _ => False) w1 W2 := by subst hW2; exact (Mod.refl _ _).alloc _
  have oN := oN.mod m2
  have oP := oP.mod m2
  have oL := oL.mod m2 (fun g _ _ x => x)
  have m2 := oM.trans m2
  have hT2 := hT.mod m2
  have q0 : W2.cell? ⟨w1.heap.size, 0, none⟩ = some (.map mn) := (cell_of hb2 0).trans rfl
  have q1 : W2.cell? ⟨w1.heap.size, 1, none⟩ = some (.map mp) := (cell_of hb2 1).trans rfl
  have q2 : W2.cell? ⟨w1.heap.size, 2, none⟩ = some (.slice sa sn sc) := (cell_of hb2 2).trans rfl
  have q3 : W2.cell? ⟨w1.heap.size, 3, none⟩ = some (.int .i64 f) := (cell_of hb2 3).trans rfl
  clear hb2 oM hsx
  have hLk := oN.look n (by unfold maxLen; omega)
  have hV : findS s n = match findE ((listS s).getD []) n with | some e => ((e.slot : Int), e.path) | none => (-1, 0) := rfl
  have hE : ent0 ((listS s).getD []) n = (findE ((listS s).getD []) n).getD ⟨0, 0, ⟨#[]⟩⟩ := rfl
  clear oN oP oL oF hsc hsn
  generalize (listS s).getD [] = l at *
  generalize (listS s).isSome = is at *
  cases hf : findE l n with
  | none =>
    rw [hf] at hV hE hLk
    rw [hE] at hLk
    simp only [Option.getD_none, Option.isSome_none] at hLk
    have hV := Lib.hid hV
    clear hE hf
    go_wp2
    go_ret2
    exact ⟨by rw [hV.out]; rfl, m2.alloc _⟩
  | some e =>
    rw [hf] at hV hE hLk
    rw [hE] at hLk
    simp only [Option.getD_some, Option.isSome_some] at hLk
    have hV := Lib.hid hV
    clear hE hf
    obtain ⟨eS, eP, eN⟩ := e
    simp only at hLk
    obtain ⟨W3, hW3⟩ : ∃ W3, W2.alloc (.cells #[.int .i64 eS, .int .u64 eP, .string eN] 36) = W3 := ⟨_, rfl⟩
    have hb3 : W3.heap[W2.heap.size]? = some (.cells #[.int .i64 eS, .int .u64 eP, .string eN] 36 (0, 0)) := by subst hW3; exact new_at _ _
    have m3 : Mod (fun _ => False) W2 W3 := by subst hW3; exact (Mod.refl _ _).alloc _
    have p0 : W3.cell? ⟨W2.heap.size, 0, none⟩ = some (.int .i64 eS) := (cell_of hb3 0).trans rfl
    have p1 : W3.cell? ⟨W2.heap.size, 1, none⟩ = some (.int .u64 eP) := (cell_of hb3 1).trans rfl
    clear hb3
    go_wp2
    go_quiet (fail)
    go_wp2
    go_ret2
    exact ⟨by rw [hV.out]; rfl, (m2.trans m3).drewN _⟩
end Go.Proofs.YtfkmfllhlhefdaaDoor
