/- The document's fields, in new memory. -/
import Derived.Test.YtklpopmjpgdjnaaGreatDoorQRefFl
set_option linter.unusedVariables false
set_option linter.unusedSimpArgs false
namespace Go.Proofs.YtklpopmjpgdjnaaGreatDoor
open Go.RowKit

theorem sl_newB (xs : List Value) (T : TypeId) (w : World) (h : 0 < xs.length) : SlAt (w.alloc (.cells xs.toArray T)) (w.heap.size ≤ ·) (.slice (some ⟨w.heap.size, 0, none⟩) xs.length xs.length) xs :=
  .inr ⟨w.heap.size, 0, xs.length, rfl, Nat.le_refl _, by simp, Nat.le_refl _, fun j u hj => by rw [Nat.zero_add, cell_of (new_at w _), List.getElem?_toArray]; exact hj⟩
theorem fieldsN_100 (w : World) : Calls Tryz.prog 34 #[.int .u8 100] w fun e w' => ∃ v, e = .returned v ∧ SlAt w' (w.heap.size ≤ ·) v (fldsV 100) ∧ Mod (fun _ => False) w w' := by
  have hs := sl_newB (fldsV 100) 9 w (by decide)
  have hm : Mod (fun _ => False) w (w.alloc (.cells (fldsV 100).toArray 9)) := (Mod.refl _ w).alloc _
  go_enter Tryz.func34, Tryz.ntmps34
  go_wp2
  go_ret
  exact ⟨_, rfl, hs, hm⟩
theorem fieldsN_101 (w : World) : Calls Tryz.prog 34 #[.int .u8 101] w fun e w' => ∃ v, e = .returned v ∧ SlAt w' (w.heap.size ≤ ·) v (fldsV 101) ∧ Mod (fun _ => False) w w' := by
  have hs := sl_newB (fldsV 101) 9 w (by decide)
  have hm : Mod (fun _ => False) w (w.alloc (.cells (fldsV 101).toArray 9)) := (Mod.refl _ w).alloc _
  go_enter Tryz.func34, Tryz.ntmps34
  go_wp2
  go_ret
  exact ⟨_, rfl, hs, hm⟩
theorem fieldsN_102 (w : World) : Calls Tryz.prog 34 #[.int .u8 102] w fun e w' => ∃ v, e = .returned v ∧ SlAt w' (w.heap.size ≤ ·) v (fldsV 102) ∧ Mod (fun _ => False) w w' := by
  have hs := sl_newB (fldsV 102) 9 w (by decide)
  have hm : Mod (fun _ => False) w (w.alloc (.cells (fldsV 102).toArray 9)) := (Mod.refl _ w).alloc _
  go_enter Tryz.func34, Tryz.ntmps34
  go_wp2
  go_ret
  exact ⟨_, rfl, hs, hm⟩
theorem fieldsN_103 (w : World) : Calls Tryz.prog 34 #[.int .u8 103] w fun e w' => ∃ v, e = .returned v ∧ SlAt w' (w.heap.size ≤ ·) v (fldsV 103) ∧ Mod (fun _ => False) w w' := by
  have hs := sl_newB (fldsV 103) 9 w (by decide)
  have hm : Mod (fun _ => False) w (w.alloc (.cells (fldsV 103).toArray 9)) := (Mod.refl _ w).alloc _
  go_enter Tryz.func34, Tryz.ntmps34
  go_wp2
  go_ret
  exact ⟨_, rfl, hs, hm⟩
theorem fieldsN_104 (w : World) : Calls Tryz.prog 34 #[.int .u8 104] w fun e w' => ∃ v, e = .returned v ∧ SlAt w' (w.heap.size ≤ ·) v (fldsV 104) ∧ Mod (fun _ => False) w w' := by
  have hs := sl_newB (fldsV 104) 9 w (by decide)
  have hm : Mod (fun _ => False) w (w.alloc (.cells (fldsV 104).toArray 9)) := (Mod.refl _ w).alloc _
  go_enter Tryz.func34, Tryz.ntmps34
  go_wp2
  go_ret
  exact ⟨_, rfl, hs, hm⟩
theorem fieldsN_105 (w : World) : Calls Tryz.prog 34 #[.int .u8 105] w fun e w' => ∃ v, e = .returned v ∧ SlAt w' (w.heap.size ≤ ·) v (fldsV 105) ∧ Mod (fun _ => False) w w' := by
  have hs := sl_newB (fldsV 105) 9 w (by decide)
  have hm : Mod (fun _ => False) w (w.alloc (.cells (fldsV 105).toArray 9)) := (Mod.refl _ w).alloc _
  go_enter Tryz.func34, Tryz.ntmps34
  go_wp2
  go_ret
  exact ⟨_, rfl, hs, hm⟩
theorem fieldsN_107 (w : World) : Calls Tryz.prog 34 #[.int .u8 107] w fun e w' => ∃ v, e = .returned v ∧ SlAt w' (w.heap.size ≤ ·) v (fldsV 107) ∧ Mod (fun _ => False) w w' := by
  have hs := sl_newB (fldsV 107) 9 w (by decide)
  have hm : Mod (fun _ => False) w (w.alloc (.cells (fldsV 107).toArray 9)) := (Mod.refl _ w).alloc _
  go_enter Tryz.func34, Tryz.ntmps34
  go_wp2
  go_ret
  exact ⟨_, rfl, hs, hm⟩
theorem fieldsN_108 (w : World) : Calls Tryz.prog 34 #[.int .u8 108] w fun e w' => ∃ v, e = .returned v ∧ SlAt w' (w.heap.size ≤ ·) v (fldsV 108) ∧ Mod (fun _ => False) w w' := by
  have hs := sl_newB (fldsV 108) 9 w (by decide)
  have hm : Mod (fun _ => False) w (w.alloc (.cells (fldsV 108).toArray 9)) := (Mod.refl _ w).alloc _
  go_enter Tryz.func34, Tryz.ntmps34
  go_wp2
  go_ret
  exact ⟨_, rfl, hs, hm⟩
theorem fieldsN_110 (w : World) : Calls Tryz.prog 34 #[.int .u8 110] w fun e w' => ∃ v, e = .returned v ∧ SlAt w' (w.heap.size ≤ ·) v (fldsV 110) ∧ Mod (fun _ => False) w w' := by
  have hs := sl_newB (fldsV 110) 9 w (by decide)
  have hm : Mod (fun _ => False) w (w.alloc (.cells (fldsV 110).toArray 9)) := (Mod.refl _ w).alloc _
  go_enter Tryz.func34, Tryz.ntmps34
  go_wp2
  go_ret
  exact ⟨_, rfl, hs, hm⟩
theorem fieldsN_111 (w : World) : Calls Tryz.prog 34 #[.int .u8 111] w fun e w' => ∃ v, e = .returned v ∧ SlAt w' (w.heap.size ≤ ·) v (fldsV 111) ∧ Mod (fun _ => False) w w' := by
  have hs := sl_newB (fldsV 111) 9 w (by decide)
  have hm : Mod (fun _ => False) w (w.alloc (.cells (fldsV 111).toArray 9)) := (Mod.refl _ w).alloc _
  go_enter Tryz.func34, Tryz.ntmps34
  go_wp2
  go_ret
  exact ⟨_, rfl, hs, hm⟩
theorem fieldsN_112 (w : World) : Calls Tryz.prog 34 #[.int .u8 112] w fun e w' => ∃ v, e = .returned v ∧ SlAt w' (w.heap.size ≤ ·) v (fldsV 112) ∧ Mod (fun _ => False) w w' := by
  have hs := sl_newB (fldsV 112) 9 w (by decide)
  have hm : Mod (fun _ => False) w (w.alloc (.cells (fldsV 112).toArray 9)) := (Mod.refl _ w).alloc _
  go_enter Tryz.func34, Tryz.ntmps34
  go_wp2
  go_ret
  exact ⟨_, rfl, hs, hm⟩
theorem fieldsN_113 (w : World) : Calls Tryz.prog 34 #[.int .u8 113] w fun e w' => ∃ v, e = .returned v ∧ SlAt w' (w.heap.size ≤ ·) v (fldsV 113) ∧ Mod (fun _ => False) w w' := by
  have hs := sl_newB (fldsV 113) 9 w (by decide)
  have hm : Mod (fun _ => False) w (w.alloc (.cells (fldsV 113).toArray 9)) := (Mod.refl _ w).alloc _
  go_enter Tryz.func34, Tryz.ntmps34
  go_wp2
  go_ret
  exact ⟨_, rfl, hs, hm⟩
theorem fieldsN_114 (w : World) : Calls Tryz.prog 34 #[.int .u8 114] w fun e w' => ∃ v, e = .returned v ∧ SlAt w' (w.heap.size ≤ ·) v (fldsV 114) ∧ Mod (fun _ => False) w w' := by
  have hs := sl_newB (fldsV 114) 9 w (by decide)
  have hm : Mod (fun _ => False) w (w.alloc (.cells (fldsV 114).toArray 9)) := (Mod.refl _ w).alloc _
  go_enter Tryz.func34, Tryz.ntmps34
  go_wp2
  go_ret
  exact ⟨_, rfl, hs, hm⟩
theorem fieldsN_115 (w : World) : Calls Tryz.prog 34 #[.int .u8 115] w fun e w' => ∃ v, e = .returned v ∧ SlAt w' (w.heap.size ≤ ·) v (fldsV 115) ∧ Mod (fun _ => False) w w' := by
  have hs := sl_newB (fldsV 115) 9 w (by decide)
  have hm : Mod (fun _ => False) w (w.alloc (.cells (fldsV 115).toArray 9)) := (Mod.refl _ w).alloc _
  go_enter Tryz.func34, Tryz.ntmps34
  go_wp2
  go_ret
  exact ⟨_, rfl, hs, hm⟩
theorem fieldsN_116 (w : World) : Calls Tryz.prog 34 #[.int .u8 116] w fun e w' => ∃ v, e = .returned v ∧ SlAt w' (w.heap.size ≤ ·) v (fldsV 116) ∧ Mod (fun _ => False) w w' := by
  have hs := sl_newB (fldsV 116) 9 w (by decide)
  have hm : Mod (fun _ => False) w (w.alloc (.cells (fldsV 116).toArray 9)) := (Mod.refl _ w).alloc _
  go_enter Tryz.func34, Tryz.ntmps34
  go_wp2
  go_ret
  exact ⟨_, rfl, hs, hm⟩
theorem fieldsN_117 (w : World) : Calls Tryz.prog 34 #[.int .u8 117] w fun e w' => ∃ v, e = .returned v ∧ SlAt w' (w.heap.size ≤ ·) v (fldsV 117) ∧ Mod (fun _ => False) w w' := by
  have hs := sl_newB (fldsV 117) 9 w (by decide)
  have hm : Mod (fun _ => False) w (w.alloc (.cells (fldsV 117).toArray 9)) := (Mod.refl _ w).alloc _
  go_enter Tryz.func34, Tryz.ntmps34
  go_wp2
  go_ret
  exact ⟨_, rfl, hs, hm⟩
theorem fieldsN_118 (w : World) : Calls Tryz.prog 34 #[.int .u8 118] w fun e w' => ∃ v, e = .returned v ∧ SlAt w' (w.heap.size ≤ ·) v (fldsV 118) ∧ Mod (fun _ => False) w w' := by
  have hs := sl_newB (fldsV 118) 9 w (by decide)
  have hm : Mod (fun _ => False) w (w.alloc (.cells (fldsV 118).toArray 9)) := (Mod.refl _ w).alloc _
  go_enter Tryz.func34, Tryz.ntmps34
  go_wp2
  go_ret
  exact ⟨_, rfl, hs, hm⟩
theorem fieldsN_119 (w : World) : Calls Tryz.prog 34 #[.int .u8 119] w fun e w' => ∃ v, e = .returned v ∧ SlAt w' (w.heap.size ≤ ·) v (fldsV 119) ∧ Mod (fun _ => False) w w' := by
  have hs := sl_newB (fldsV 119) 9 w (by decide)
  have hm : Mod (fun _ => False) w (w.alloc (.cells (fldsV 119).toArray 9)) := (Mod.refl _ w).alloc _
  go_enter Tryz.func34, Tryz.ntmps34
  go_wp2
  go_ret
  exact ⟨_, rfl, hs, hm⟩
theorem fieldsN_120 (w : World) : Calls Tryz.prog 34 #[.int .u8 120] w fun e w' => ∃ v, e = .returned v ∧ SlAt w' (w.heap.size ≤ ·) v (fldsV 120) ∧ Mod (fun _ => False) w w' := by
  have hs := sl_newB (fldsV 120) 9 w (by decide)
  have hm : Mod (fun _ => False) w (w.alloc (.cells (fldsV 120).toArray 9)) := (Mod.refl _ w).alloc _
  go_enter Tryz.func34, Tryz.ntmps34
  go_wp2
  go_ret
  exact ⟨_, rfl, hs, hm⟩
theorem fieldsN_122 (w : World) : Calls Tryz.prog 34 #[.int .u8 122] w fun e w' => ∃ v, e = .returned v ∧ SlAt w' (w.heap.size ≤ ·) v (fldsV 122) ∧ Mod (fun _ => False) w w' := by
  have hs := sl_newB (fldsV 122) 9 w (by decide)
  have hm : Mod (fun _ => False) w (w.alloc (.cells (fldsV 122).toArray 9)) := (Mod.refl _ w).alloc _
  go_enter Tryz.func34, Tryz.ntmps34
  go_wp2
  go_ret
  exact ⟨_, rfl, hs, hm⟩
theorem fieldsN_124 (w : World) : Calls Tryz.prog 34 #[.int .u8 124] w fun e w' => ∃ v, e = .returned v ∧ SlAt w' (w.heap.size ≤ ·) v (fldsV 124) ∧ Mod (fun _ => False) w w' := by
  have hs := sl_newB (fldsV 124) 9 w (by decide)
  have hm : Mod (fun _ => False) w (w.alloc (.cells (fldsV 124).toArray 9)) := (Mod.refl _ w).alloc _
  go_enter Tryz.func34, Tryz.ntmps34
  go_wp2
  go_ret
  exact ⟨_, rfl, hs, hm⟩
theorem fieldsN_125 (w : World) : Calls Tryz.prog 34 #[.int .u8 125] w fun e w' => ∃ v, e = .returned v ∧ SlAt w' (w.heap.size ≤ ·) v (fldsV 125) ∧ Mod (fun _ => False) w w' := by
  have hs := sl_newB (fldsV 125) 9 w (by decide)
  have hm : Mod (fun _ => False) w (w.alloc (.cells (fldsV 125).toArray 9)) := (Mod.refl _ w).alloc _
  go_enter Tryz.func34, Tryz.ntmps34
  go_wp2
  go_ret
  exact ⟨_, rfl, hs, hm⟩
theorem fieldsN_126 (w : World) : Calls Tryz.prog 34 #[.int .u8 126] w fun e w' => ∃ v, e = .returned v ∧ SlAt w' (w.heap.size ≤ ·) v (fldsV 126) ∧ Mod (fun _ => False) w w' := by
  have hs := sl_newB (fldsV 126) 9 w (by decide)
  have hm : Mod (fun _ => False) w (w.alloc (.cells (fldsV 126).toArray 9)) := (Mod.refl _ w).alloc _
  go_enter Tryz.func34, Tryz.ntmps34
  go_wp2
  go_ret
  exact ⟨_, rfl, hs, hm⟩
set_option maxHeartbeats 1000000 in
theorem fieldsN_none (t : Nat) (w : World) (h : t < 256) (h100 : t ≠ 100) (h101 : t ≠ 101) (h102 : t ≠ 102) (h103 : t ≠ 103) (h104 : t ≠ 104) (h105 : t ≠ 105) (h107 : t ≠ 107) (h108 : t ≠ 108) (h110 : t ≠ 110) (h111 : t ≠ 111) (h112 : t ≠ 112) (h113 : t ≠ 113) (h114 : t ≠ 114) (h115 : t ≠ 115) (h116 : t ≠ 116) (h117 : t ≠ 117) (h118 : t ≠ 118) (h119 : t ≠ 119) (h120 : t ≠ 120) (h122 : t ≠ 122) (h124 : t ≠ 124) (h125 : t ≠ 125) (h126 : t ≠ 126) : Calls Tryz.prog 34 #[.int .u8 t] w fun e w' => ∃ v, e = .returned v ∧ SlAt w' (w.heap.size ≤ ·) v (fldsV t) ∧ Mod (fun _ => False) w w' := by
  have hn : fldsV t = [] := by
    unfold fldsV
    cases hf : fieldsOf t with
    | none => rfl
    | some l =>
      unfold fieldsOf at hf
      split at hf <;> first | omega | (injection hf with hf; subst hf; rfl) | cases hf
  have q100 : ((t : Int) == 100) = false := by simp; omega
  have q101 : ((t : Int) == 101) = false := by simp; omega
  have q102 : ((t : Int) == 102) = false := by simp; omega
  have q103 : ((t : Int) == 103) = false := by simp; omega
  have q104 : ((t : Int) == 104) = false := by simp; omega
  have q105 : ((t : Int) == 105) = false := by simp; omega
  have q107 : ((t : Int) == 107) = false := by simp; omega
  have q108 : ((t : Int) == 108) = false := by simp; omega
  have q110 : ((t : Int) == 110) = false := by simp; omega
  have q111 : ((t : Int) == 111) = false := by simp; omega
  have q112 : ((t : Int) == 112) = false := by simp; omega
  have q113 : ((t : Int) == 113) = false := by simp; omega
  have q114 : ((t : Int) == 114) = false := by simp; omega
  have q115 : ((t : Int) == 115) = false := by simp; omega
  have q116 : ((t : Int) == 116) = false := by simp; omega
  have q117 : ((t : Int) == 117) = false := by simp; omega
  have q118 : ((t : Int) == 118) = false := by simp; omega
  have q119 : ((t : Int) == 119) = false := by simp; omega
  have q120 : ((t : Int) == 120) = false := by simp; omega
  have q122 : ((t : Int) == 122) = false := by simp; omega
  have q124 : ((t : Int) == 124) = false := by simp; omega
  have q125 : ((t : Int) == 125) = false := by simp; omega
  have q126 : ((t : Int) == 126) = false := by simp; omega
  rw [hn]
  go_enter Tryz.func34, Tryz.ntmps34
  go_wp2
  go_ret
  exact ⟨_, rfl, .inl ⟨rfl, none, 0, rfl⟩, Mod.refl _ _⟩
theorem fields24N_any (t : Nat) (w : World) (h : t < 256) : Calls Tryz.prog 34 #[.int .u8 t] w fun e w' => ∃ v, e = .returned v ∧ SlAt w' (w.heap.size ≤ ·) v (fldsV t) ∧ Mod (fun _ => False) w w' := by
  by_cases h100 : t = 100
  · subst h100; exact fieldsN_100 w
  by_cases h101 : t = 101
  · subst h101; exact fieldsN_101 w
  by_cases h102 : t = 102
  · subst h102; exact fieldsN_102 w
  by_cases h103 : t = 103
  · subst h103; exact fieldsN_103 w
  by_cases h104 : t = 104
  · subst h104; exact fieldsN_104 w
  by_cases h105 : t = 105
  · subst h105; exact fieldsN_105 w
  by_cases h107 : t = 107
  · subst h107; exact fieldsN_107 w
  by_cases h108 : t = 108
  · subst h108; exact fieldsN_108 w
  by_cases h110 : t = 110
  · subst h110; exact fieldsN_110 w
  by_cases h111 : t = 111
  · subst h111; exact fieldsN_111 w
  by_cases h112 : t = 112
  · subst h112; exact fieldsN_112 w
  by_cases h113 : t = 113
  · subst h113; exact fieldsN_113 w
  by_cases h114 : t = 114
  · subst h114; exact fieldsN_114 w
  by_cases h115 : t = 115
  · subst h115; exact fieldsN_115 w
  by_cases h116 : t = 116
  · subst h116; exact fieldsN_116 w
  by_cases h117 : t = 117
  · subst h117; exact fieldsN_117 w
  by_cases h118 : t = 118
  · subst h118; exact fieldsN_118 w
  by_cases h119 : t = 119
  · subst h119; exact fieldsN_119 w
  by_cases h120 : t = 120
  · subst h120; exact fieldsN_120 w
  by_cases h122 : t = 122
  · subst h122; exact fieldsN_122 w
  by_cases h124 : t = 124
  · subst h124; exact fieldsN_124 w
  by_cases h125 : t = 125
  · subst h125; exact fieldsN_125 w
  by_cases h126 : t = 126
  · subst h126; exact fieldsN_126 w
  exact fieldsN_none t w h h100 h101 h102 h103 h104 h105 h107 h108 h110 h111 h112 h113 h114 h115 h116 h117 h118 h119 h120 h122 h124 h125 h126
end Go.Proofs.YtklpopmjpgdjnaaGreatDoor
