/- The document's Known, fields and texts. -/
import Derived.Test.YtklpopmjpgdjnaaGreatDoorQRefWr
import Derived.Test.YtklpopmjpgdjnaaGreatDoorQPenRL
import Derived.Test.YtklpopmjpgdjnaaGreatDoorQSame24
import Derived.Test.YtklpopmjpgdjnaaGreatDoorQPlain
set_option linter.unusedVariables false
set_option linter.unusedSimpArgs false
namespace Go.Proofs.YtklpopmjpgdjnaaGreatDoor
open Go.RowKit

def knownB (t : Nat) : Bool := (fieldsOf t).isSome
theorem sl_new (xs : List Value) (T : TypeId) (w : World) (h : 0 < xs.length) : SlAt (w.alloc (.cells xs.toArray T)) (fun _ => True) (.slice (some ⟨w.heap.size, 0, none⟩) xs.length xs.length) xs :=
  .inr ⟨w.heap.size, 0, xs.length, rfl, trivial, by simp, Nat.le_refl _, fun j u hj => by rw [Nat.zero_add, cell_of (new_at w _), List.getElem?_toArray]; exact hj⟩
def fldsV (t : Nat) : List Value := ((fieldsOf t).getD []).map fun f => .string (fname f)
theorem fields_100 (w : World) : Calls Tryz.prog 34 #[.int .u8 100] w fun e w' => ∃ v, e = .returned v ∧ SlAt w' (fun _ => True) v (fldsV 100) ∧ Mod (fun _ => False) w w' := by
  have hs := sl_new (fldsV 100) 9 w (by decide)
  have hm : Mod (fun _ => False) w (w.alloc (.cells (fldsV 100).toArray 9)) := (Mod.refl _ w).alloc _
  go_enter Tryz.func34, Tryz.ntmps34
  go_wp2
  go_ret
  exact ⟨_, rfl, hs, hm⟩
theorem fields_101 (w : World) : Calls Tryz.prog 34 #[.int .u8 101] w fun e w' => ∃ v, e = .returned v ∧ SlAt w' (fun _ => True) v (fldsV 101) ∧ Mod (fun _ => False) w w' := by
  have hs := sl_new (fldsV 101) 9 w (by decide)
  have hm : Mod (fun _ => False) w (w.alloc (.cells (fldsV 101).toArray 9)) := (Mod.refl _ w).alloc _
  go_enter Tryz.func34, Tryz.ntmps34
  go_wp2
  go_ret
  exact ⟨_, rfl, hs, hm⟩
theorem fields_102 (w : World) : Calls Tryz.prog 34 #[.int .u8 102] w fun e w' => ∃ v, e = .returned v ∧ SlAt w' (fun _ => True) v (fldsV 102) ∧ Mod (fun _ => False) w w' := by
  have hs := sl_new (fldsV 102) 9 w (by decide)
  have hm : Mod (fun _ => False) w (w.alloc (.cells (fldsV 102).toArray 9)) := (Mod.refl _ w).alloc _
  go_enter Tryz.func34, Tryz.ntmps34
  go_wp2
  go_ret
  exact ⟨_, rfl, hs, hm⟩
theorem fields_103 (w : World) : Calls Tryz.prog 34 #[.int .u8 103] w fun e w' => ∃ v, e = .returned v ∧ SlAt w' (fun _ => True) v (fldsV 103) ∧ Mod (fun _ => False) w w' := by
  have hs := sl_new (fldsV 103) 9 w (by decide)
  have hm : Mod (fun _ => False) w (w.alloc (.cells (fldsV 103).toArray 9)) := (Mod.refl _ w).alloc _
  go_enter Tryz.func34, Tryz.ntmps34
  go_wp2
  go_ret
  exact ⟨_, rfl, hs, hm⟩
theorem fields_104 (w : World) : Calls Tryz.prog 34 #[.int .u8 104] w fun e w' => ∃ v, e = .returned v ∧ SlAt w' (fun _ => True) v (fldsV 104) ∧ Mod (fun _ => False) w w' := by
  have hs := sl_new (fldsV 104) 9 w (by decide)
  have hm : Mod (fun _ => False) w (w.alloc (.cells (fldsV 104).toArray 9)) := (Mod.refl _ w).alloc _
  go_enter Tryz.func34, Tryz.ntmps34
  go_wp2
  go_ret
  exact ⟨_, rfl, hs, hm⟩
theorem fields_105 (w : World) : Calls Tryz.prog 34 #[.int .u8 105] w fun e w' => ∃ v, e = .returned v ∧ SlAt w' (fun _ => True) v (fldsV 105) ∧ Mod (fun _ => False) w w' := by
  have hs := sl_new (fldsV 105) 9 w (by decide)
  have hm : Mod (fun _ => False) w (w.alloc (.cells (fldsV 105).toArray 9)) := (Mod.refl _ w).alloc _
  go_enter Tryz.func34, Tryz.ntmps34
  go_wp2
  go_ret
  exact ⟨_, rfl, hs, hm⟩
theorem fields_107 (w : World) : Calls Tryz.prog 34 #[.int .u8 107] w fun e w' => ∃ v, e = .returned v ∧ SlAt w' (fun _ => True) v (fldsV 107) ∧ Mod (fun _ => False) w w' := by
  have hs := sl_new (fldsV 107) 9 w (by decide)
  have hm : Mod (fun _ => False) w (w.alloc (.cells (fldsV 107).toArray 9)) := (Mod.refl _ w).alloc _
  go_enter Tryz.func34, Tryz.ntmps34
  go_wp2
  go_ret
  exact ⟨_, rfl, hs, hm⟩
theorem fields_108 (w : World) : Calls Tryz.prog 34 #[.int .u8 108] w fun e w' => ∃ v, e = .returned v ∧ SlAt w' (fun _ => True) v (fldsV 108) ∧ Mod (fun _ => False) w w' := by
  have hs := sl_new (fldsV 108) 9 w (by decide)
  have hm : Mod (fun _ => False) w (w.alloc (.cells (fldsV 108).toArray 9)) := (Mod.refl _ w).alloc _
  go_enter Tryz.func34, Tryz.ntmps34
  go_wp2
  go_ret
  exact ⟨_, rfl, hs, hm⟩
theorem fields_110 (w : World) : Calls Tryz.prog 34 #[.int .u8 110] w fun e w' => ∃ v, e = .returned v ∧ SlAt w' (fun _ => True) v (fldsV 110) ∧ Mod (fun _ => False) w w' := by
  have hs := sl_new (fldsV 110) 9 w (by decide)
  have hm : Mod (fun _ => False) w (w.alloc (.cells (fldsV 110).toArray 9)) := (Mod.refl _ w).alloc _
  go_enter Tryz.func34, Tryz.ntmps34
  go_wp2
  go_ret
  exact ⟨_, rfl, hs, hm⟩
theorem fields_111 (w : World) : Calls Tryz.prog 34 #[.int .u8 111] w fun e w' => ∃ v, e = .returned v ∧ SlAt w' (fun _ => True) v (fldsV 111) ∧ Mod (fun _ => False) w w' := by
  have hs := sl_new (fldsV 111) 9 w (by decide)
  have hm : Mod (fun _ => False) w (w.alloc (.cells (fldsV 111).toArray 9)) := (Mod.refl _ w).alloc _
  go_enter Tryz.func34, Tryz.ntmps34
  go_wp2
  go_ret
  exact ⟨_, rfl, hs, hm⟩
theorem fields_112 (w : World) : Calls Tryz.prog 34 #[.int .u8 112] w fun e w' => ∃ v, e = .returned v ∧ SlAt w' (fun _ => True) v (fldsV 112) ∧ Mod (fun _ => False) w w' := by
  have hs := sl_new (fldsV 112) 9 w (by decide)
  have hm : Mod (fun _ => False) w (w.alloc (.cells (fldsV 112).toArray 9)) := (Mod.refl _ w).alloc _
  go_enter Tryz.func34, Tryz.ntmps34
  go_wp2
  go_ret
  exact ⟨_, rfl, hs, hm⟩
theorem fields_113 (w : World) : Calls Tryz.prog 34 #[.int .u8 113] w fun e w' => ∃ v, e = .returned v ∧ SlAt w' (fun _ => True) v (fldsV 113) ∧ Mod (fun _ => False) w w' := by
  have hs := sl_new (fldsV 113) 9 w (by decide)
  have hm : Mod (fun _ => False) w (w.alloc (.cells (fldsV 113).toArray 9)) := (Mod.refl _ w).alloc _
  go_enter Tryz.func34, Tryz.ntmps34
  go_wp2
  go_ret
  exact ⟨_, rfl, hs, hm⟩
theorem fields_114 (w : World) : Calls Tryz.prog 34 #[.int .u8 114] w fun e w' => ∃ v, e = .returned v ∧ SlAt w' (fun _ => True) v (fldsV 114) ∧ Mod (fun _ => False) w w' := by
  have hs := sl_new (fldsV 114) 9 w (by decide)
  have hm : Mod (fun _ => False) w (w.alloc (.cells (fldsV 114).toArray 9)) := (Mod.refl _ w).alloc _
  go_enter Tryz.func34, Tryz.ntmps34
  go_wp2
  go_ret
  exact ⟨_, rfl, hs, hm⟩
theorem fields_115 (w : World) : Calls Tryz.prog 34 #[.int .u8 115] w fun e w' => ∃ v, e = .returned v ∧ SlAt w' (fun _ => True) v (fldsV 115) ∧ Mod (fun _ => False) w w' := by
  have hs := sl_new (fldsV 115) 9 w (by decide)
  have hm : Mod (fun _ => False) w (w.alloc (.cells (fldsV 115).toArray 9)) := (Mod.refl _ w).alloc _
  go_enter Tryz.func34, Tryz.ntmps34
  go_wp2
  go_ret
  exact ⟨_, rfl, hs, hm⟩
theorem fields_116 (w : World) : Calls Tryz.prog 34 #[.int .u8 116] w fun e w' => ∃ v, e = .returned v ∧ SlAt w' (fun _ => True) v (fldsV 116) ∧ Mod (fun _ => False) w w' := by
  have hs := sl_new (fldsV 116) 9 w (by decide)
  have hm : Mod (fun _ => False) w (w.alloc (.cells (fldsV 116).toArray 9)) := (Mod.refl _ w).alloc _
  go_enter Tryz.func34, Tryz.ntmps34
  go_wp2
  go_ret
  exact ⟨_, rfl, hs, hm⟩
theorem fields_117 (w : World) : Calls Tryz.prog 34 #[.int .u8 117] w fun e w' => ∃ v, e = .returned v ∧ SlAt w' (fun _ => True) v (fldsV 117) ∧ Mod (fun _ => False) w w' := by
  have hs := sl_new (fldsV 117) 9 w (by decide)
  have hm : Mod (fun _ => False) w (w.alloc (.cells (fldsV 117).toArray 9)) := (Mod.refl _ w).alloc _
  go_enter Tryz.func34, Tryz.ntmps34
  go_wp2
  go_ret
  exact ⟨_, rfl, hs, hm⟩
theorem fields_118 (w : World) : Calls Tryz.prog 34 #[.int .u8 118] w fun e w' => ∃ v, e = .returned v ∧ SlAt w' (fun _ => True) v (fldsV 118) ∧ Mod (fun _ => False) w w' := by
  have hs := sl_new (fldsV 118) 9 w (by decide)
  have hm : Mod (fun _ => False) w (w.alloc (.cells (fldsV 118).toArray 9)) := (Mod.refl _ w).alloc _
  go_enter Tryz.func34, Tryz.ntmps34
  go_wp2
  go_ret
  exact ⟨_, rfl, hs, hm⟩
theorem fields_119 (w : World) : Calls Tryz.prog 34 #[.int .u8 119] w fun e w' => ∃ v, e = .returned v ∧ SlAt w' (fun _ => True) v (fldsV 119) ∧ Mod (fun _ => False) w w' := by
  have hs := sl_new (fldsV 119) 9 w (by decide)
  have hm : Mod (fun _ => False) w (w.alloc (.cells (fldsV 119).toArray 9)) := (Mod.refl _ w).alloc _
  go_enter Tryz.func34, Tryz.ntmps34
  go_wp2
  go_ret
  exact ⟨_, rfl, hs, hm⟩
theorem fields_120 (w : World) : Calls Tryz.prog 34 #[.int .u8 120] w fun e w' => ∃ v, e = .returned v ∧ SlAt w' (fun _ => True) v (fldsV 120) ∧ Mod (fun _ => False) w w' := by
  have hs := sl_new (fldsV 120) 9 w (by decide)
  have hm : Mod (fun _ => False) w (w.alloc (.cells (fldsV 120).toArray 9)) := (Mod.refl _ w).alloc _
  go_enter Tryz.func34, Tryz.ntmps34
  go_wp2
  go_ret
  exact ⟨_, rfl, hs, hm⟩
theorem fields_122 (w : World) : Calls Tryz.prog 34 #[.int .u8 122] w fun e w' => ∃ v, e = .returned v ∧ SlAt w' (fun _ => True) v (fldsV 122) ∧ Mod (fun _ => False) w w' := by
  have hs := sl_new (fldsV 122) 9 w (by decide)
  have hm : Mod (fun _ => False) w (w.alloc (.cells (fldsV 122).toArray 9)) := (Mod.refl _ w).alloc _
  go_enter Tryz.func34, Tryz.ntmps34
  go_wp2
  go_ret
  exact ⟨_, rfl, hs, hm⟩
theorem fields_124 (w : World) : Calls Tryz.prog 34 #[.int .u8 124] w fun e w' => ∃ v, e = .returned v ∧ SlAt w' (fun _ => True) v (fldsV 124) ∧ Mod (fun _ => False) w w' := by
  have hs := sl_new (fldsV 124) 9 w (by decide)
  have hm : Mod (fun _ => False) w (w.alloc (.cells (fldsV 124).toArray 9)) := (Mod.refl _ w).alloc _
  go_enter Tryz.func34, Tryz.ntmps34
  go_wp2
  go_ret
  exact ⟨_, rfl, hs, hm⟩
theorem fields_125 (w : World) : Calls Tryz.prog 34 #[.int .u8 125] w fun e w' => ∃ v, e = .returned v ∧ SlAt w' (fun _ => True) v (fldsV 125) ∧ Mod (fun _ => False) w w' := by
  have hs := sl_new (fldsV 125) 9 w (by decide)
  have hm : Mod (fun _ => False) w (w.alloc (.cells (fldsV 125).toArray 9)) := (Mod.refl _ w).alloc _
  go_enter Tryz.func34, Tryz.ntmps34
  go_wp2
  go_ret
  exact ⟨_, rfl, hs, hm⟩
theorem fields_126 (w : World) : Calls Tryz.prog 34 #[.int .u8 126] w fun e w' => ∃ v, e = .returned v ∧ SlAt w' (fun _ => True) v (fldsV 126) ∧ Mod (fun _ => False) w w' := by
  have hs := sl_new (fldsV 126) 9 w (by decide)
  have hm : Mod (fun _ => False) w (w.alloc (.cells (fldsV 126).toArray 9)) := (Mod.refl _ w).alloc _
  go_enter Tryz.func34, Tryz.ntmps34
  go_wp2
  go_ret
  exact ⟨_, rfl, hs, hm⟩
set_option maxHeartbeats 1000000 in
theorem fields_none (t : Nat) (w : World) (h : t < 256) (h100 : t ≠ 100) (h101 : t ≠ 101) (h102 : t ≠ 102) (h103 : t ≠ 103) (h104 : t ≠ 104) (h105 : t ≠ 105) (h107 : t ≠ 107) (h108 : t ≠ 108) (h110 : t ≠ 110) (h111 : t ≠ 111) (h112 : t ≠ 112) (h113 : t ≠ 113) (h114 : t ≠ 114) (h115 : t ≠ 115) (h116 : t ≠ 116) (h117 : t ≠ 117) (h118 : t ≠ 118) (h119 : t ≠ 119) (h120 : t ≠ 120) (h122 : t ≠ 122) (h124 : t ≠ 124) (h125 : t ≠ 125) (h126 : t ≠ 126) : Calls Tryz.prog 34 #[.int .u8 t] w fun e w' => ∃ v, e = .returned v ∧ SlAt w' (fun _ => True) v (fldsV t) ∧ Mod (fun _ => False) w w' := by
  have hn : fldsV t = [] := by
    unfold fldsV
    cases hf : fieldsOf t with
    | none => rfl
    | some l =>
      unfold fieldsOf at hf
      split at hf <;> first | omega | (injection hf with hf; subst hf; rfl) | cases hf
  have q100 : ((t : Int) == 100) = false := by simp; omega
  have q101 : ((t : Int) == 101) = false := by simp; omega
  have q102 : ((t : Int) == 102) = false := by simp; omega
  have q103 : ((t : Int) == 103) = false := by simp; omega
  have q104 : ((t : Int) == 104) = false := by simp; omega
  have q105 : ((t : Int) == 105) = false := by simp; omega
  have q107 : ((t : Int) == 107) = false := by simp; omega
  have q108 : ((t : Int) == 108) = false := by simp; omega
  have q110 : ((t : Int) == 110) = false := by simp; omega
  have q111 : ((t : Int) == 111) = false := by simp; omega
  have q112 : ((t : Int) == 112) = false := by simp; omega
  have q113 : ((t : Int) == 113) = false := by simp; omega
  have q114 : ((t : Int) == 114) = false := by simp; omega
  have q115 : ((t : Int) == 115) = false := by simp; omega
  have q116 : ((t : Int) == 116) = false := by simp; omega
  have q117 : ((t : Int) == 117) = false := by simp; omega
  have q118 : ((t : Int) == 118) = false := by simp; omega
  have q119 : ((t : Int) == 119) = false := by simp; omega
  have q120 : ((t : Int) == 120) = false := by simp; omega
  have q122 : ((t : Int) == 122) = false := by simp; omega
  have q124 : ((t : Int) == 124) = false := by simp; omega
  have q125 : ((t : Int) == 125) = false := by simp; omega
  have q126 : ((t : Int) == 126) = false := by simp; omega
  rw [hn]
  go_enter Tryz.func34, Tryz.ntmps34
  go_wp2
  go_ret
  exact ⟨_, rfl, .inl ⟨rfl, none, 0, rfl⟩, Mod.refl _ _⟩
theorem fields24_any (t : Nat) (w : World) (h : t < 256) : Calls Tryz.prog 34 #[.int .u8 t] w fun e w' => ∃ v, e = .returned v ∧ SlAt w' (fun _ => True) v (fldsV t) ∧ Mod (fun _ => False) w w' := by
  by_cases h100 : t = 100
  · subst h100; exact fields_100 w
  by_cases h101 : t = 101
  · subst h101; exact fields_101 w
  by_cases h102 : t = 102
  · subst h102; exact fields_102 w
  by_cases h103 : t = 103
  · subst h103; exact fields_103 w
  by_cases h104 : t = 104
  · subst h104; exact fields_104 w
  by_cases h105 : t = 105
  · subst h105; exact fields_105 w
  by_cases h107 : t = 107
  · subst h107; exact fields_107 w
  by_cases h108 : t = 108
  · subst h108; exact fields_108 w
  by_cases h110 : t = 110
  · subst h110; exact fields_110 w
  by_cases h111 : t = 111
  · subst h111; exact fields_111 w
  by_cases h112 : t = 112
  · subst h112; exact fields_112 w
  by_cases h113 : t = 113
  · subst h113; exact fields_113 w
  by_cases h114 : t = 114
  · subst h114; exact fields_114 w
  by_cases h115 : t = 115
  · subst h115; exact fields_115 w
  by_cases h116 : t = 116
  · subst h116; exact fields_116 w
  by_cases h117 : t = 117
  · subst h117; exact fields_117 w
  by_cases h118 : t = 118
  · subst h118; exact fields_118 w
  by_cases h119 : t = 119
  · subst h119; exact fields_119 w
  by_cases h120 : t = 120
  · subst h120; exact fields_120 w
  by_cases h122 : t = 122
  · subst h122; exact fields_122 w
  by_cases h124 : t = 124
  · subst h124; exact fields_124 w
  by_cases h125 : t = 125
  · subst h125; exact fields_125 w
  by_cases h126 : t = 126
  · subst h126; exact fields_126 w
  exact fields_none t w h h100 h101 h102 h103 h104 h105 h107 h108 h110 h111 h112 h113 h114 h115 h116 h117 h118 h119 h120 h122 h124 h125 h126
theorem known24_any (t : Nat) (w : World) (h : t < 256) : Calls Tryz.prog 33 #[.int .u8 t] w fun e w' => e = .returned (.bool (knownB t)) ∧ w' = w := by
  have hk : knownB t = decide (100 ≤ t ∧ t ≤ 127 ∧ t ≠ 106) := (of_decide_eq_true (by kernel_rfl) : ∀ t : Fin 256, knownB t.val = decide (100 ≤ t.val ∧ t.val ≤ 127 ∧ t.val ≠ 106)) ⟨t, h⟩
  rw [hk]
  by_cases h1 : 100 ≤ t
  · have q1 : decide (100 ≤ (t : Int)) = true := by simp; omega
    by_cases h2 : t ≤ 127
    · have q2 : decide ((t : Int) ≤ 127) = true := by simp; omega
      by_cases h3 : t = 106
      · subst h3
        go_enter Tryz.func33, Tryz.ntmps33
        go_wp2
        go_ret
        exact ⟨rfl, rfl⟩
      · have q3 : ((t : Int) != 106) = true := by simp; omega
        rw [decide_eq_true ⟨h1, h2, h3⟩]
        go_enter Tryz.func33, Tryz.ntmps33
        go_wp2
        go_ret
        exact ⟨rfl, rfl⟩
    · have q2 : decide ((t : Int) ≤ 127) = false := by simp; omega
      rw [decide_eq_false (fun x => h2 x.2.1)]
      go_enter Tryz.func33, Tryz.ntmps33
      go_wp2
      go_ret
      exact ⟨rfl, rfl⟩
  · have q1 : decide (100 ≤ (t : Int)) = false := by simp; omega
    rw [decide_eq_false (fun x => h1 x.1)]
    go_enter Tryz.func33, Tryz.ntmps33
    go_wp2
    go_ret
    exact ⟨rfl, rfl⟩
theorem info_strT : (Tryz.prog.info? 9).map (fun i => (i.zero, i.size, i.bytes)) = some (some (.string { data := #[] }), 1, 16) := info_str
set_option maxRecDepth 100000 in
theorem texts24_any (m : Msg) (vn vq : Value) (P : Nat → Prop) (w : World) (hnl : m.names.length ≤ 1000000) (hn : SlAt w P vn (m.names.map .string)) :
    Calls Tryz.prog 80 #[.agg (m.cells vn vq).toArray] w fun e w' => ∃ v, e = .returned v ∧ SlAt w' (fun _ => True) v ((m.nine ++ m.names).map .string) ∧ Mod (fun _ => False) w w' := by
  obtain ⟨W, hW⟩ : ∃ W, w.alloc (.cells (m.cells vn vq).toArray 33) = W := ⟨_, rfl⟩
  have hb : W.heap[w.heap.size]? = some (msgO m vn vq) := by subst hW; exact new_at _ _
  have m0 : Mod (fun _ => False) w W := by subst hW; exact (Mod.refl _ w).alloc _
  have hfn := (hn.mod m0 (fun _ _ _ x => x)).form
  rw [List.length_map] at hfn
  obtain ⟨an, cn, rfl, hcn, _⟩ := hfn
  have c3 : W.cell? ⟨w.heap.size, 3, none⟩ = some (.string m.version) := (cell_of hb 3).trans rfl
  have c8 : W.cell? ⟨w.heap.size, 8, none⟩ = some (.string m.uname) := (cell_of hb 8).trans rfl
  have c9 : W.cell? ⟨w.heap.size, 9, none⟩ = some (.string m.aname) := (cell_of hb 9).trans rfl
  have c10 : W.cell? ⟨w.heap.size, 10, none⟩ = some (.string m.ename) := (cell_of hb 10).trans rfl
  have c11 : W.cell? ⟨w.heap.size, 11, none⟩ = some (.string m.name) := (cell_of hb 11).trans rfl
  have c32 : W.cell? ⟨w.heap.size, 32, none⟩ = some (.string m.stat.n) := (cell_of hb 32).trans rfl
  have c33 : W.cell? ⟨w.heap.size, 33, none⟩ = some (.string m.stat.u) := (cell_of hb 33).trans rfl
  have c34 : W.cell? ⟨w.heap.size, 34, none⟩ = some (.string m.stat.g) := (cell_of hb 34).trans rfl
  have c35 : W.cell? ⟨w.heap.size, 35, none⟩ = some (.string m.stat.m) := (cell_of hb 35).trans rfl
  obtain ⟨V, hV⟩ : ∃ V, W.alloc (.cells (m.nine.map Value.string).toArray 9) = V := ⟨_, rfl⟩
  have hv : V.heap[W.heap.size]? = some (.cells (m.nine.map Value.string).toArray 9 (0, 0)) := by subst hV; exact new_at _ _
  have m1 : Mod (fun _ => False) w V := by subst hV; exact m0.alloc _
  have hwW : w.heap.size ≤ W.heap.size := m0.size
  have c12 : V.cell? ⟨w.heap.size, 12, none⟩ = some (.slice an m.names.length cn) := (cell_of (((Mod.refl (fun _ => False) W).alloc _ |>.block _ (lt_of hb) (fun x => x)).trans hb) 12 |>.trans rfl |> fun h => by rw [← hV]; exact h)
  have hO : OwnA V W.heap.size 1 (.slice (some ⟨W.heap.size, 0, none⟩) 9 9) 9 (m.nine.map Value.string) := by
    refine ⟨rfl, .inr ⟨W.heap.size, 9, rfl, Nat.le_refl _, lt_of hv, Nat.le_refl _, fun j hj => ?_, fun j _ => free_of hv j, fun j u hj => ?_⟩⟩
    · rw [cell_of hv]
      have : j < (m.nine.map Value.string).toArray.size := hj
      rw [Array.getElem?_eq_getElem this]
      rfl
    · rw [cell_of hv, List.getElem?_toArray]; exact hj
  have C1 : Hid ((9 + m.names.length) * 16 ≤ 140737488355328) := by show _ ≤ _; omega
  have C2 : Hid (9 + m.names.length ≤ 9223372036854775807) := by show _ ≤ _; omega
  have C5 : Hid (Src Tryz.prog 1 25 (.slice an m.names.length cn) m.names.length (m.names.map Value.string) V) := src_slAt Tryz.underlying25 (hn.mod m1 fun _ _ _ x => x) (by rw [List.length_map]) (by intro u hu; obtain ⟨y, _, rfl⟩ := List.mem_map.1 hu; rfl)
  have HO := Lib.hid hO
  have M1 := Lib.hid m1
  have hbV : Hid (W.heap.size ≤ V.heap.size) := Nat.le_of_lt (lt_of hv)
  unfold Msg.nine at hV
  simp only [List.map_cons, List.map_nil] at hV
  clear hO m1 hv hb m0 hn
  go_enter Tryz.func80, Tryz.ntmps80
  go_wp2_with (refine wpl_append rfl (.tmp 27) (.tmp 29) _ _ rfl W.heap.size 9 (.string { data := #[] }) 1 16 Tryz.underlying25 info_str rfl (by decide) (.slice (some ⟨W.heap.size, 0, none⟩) 9 9) 9 _ rfl HO.out _ _ _ rfl C5.out C1.out C2.out hbV.out ?_; intro v' w3 hown' hgrow)
  go_ret
  refine ⟨_, rfl, ?_, ?_⟩
  · rw [List.map_append]
    exact hown'.slAt.imp fun _ _ => trivial
  · have hlt := HO.out.lt
    exact M1.out.trans' hgrow fun k hk e => by have := (hlt k e).1; omega
end Go.Proofs.YtklpopmjpgdjnaaGreatDoor
