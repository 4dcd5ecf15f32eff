/- The statement StatBack. -/
import Derived.Test.YtjhhknmdnkkknaaLawStat
import Derived.Test.YtjhhknmdnkkknaaWorks
import Derived.Test.YtjhhknmdnkkknaaPStatBack
namespace Go.Proofs.Ytjhhknmdnkkknaa.statBack
open Go.ChangeShapes Go.WideShapes Go.ChangeAt Go.RowKit
open Go.ChangeMaps (open_string)
open Go.Proofs.Ytjhhknmdnkkknaa

set_option maxRecDepth 100000 in
set_option maxHeartbeats 4000000 in
theorem walk (s : St) (b : ByteArray) (w : World) (hk : s.Ok) (h1 : s.n.size ≤ 140737488355328) (h2 : s.u.size ≤ 140737488355328) (h3 : s.g.size ≤ 140737488355328) (h4 : s.m.size ≤ 140737488355328) :
    Calls Try.prog 5 #[s.v, .string b] w fun e w' => e = .returned (.bool true) ∧ Mod (fun _ => False) w w' := by
  obtain ⟨W, hW⟩ : ∃ W, w.alloc (.cells s.cells.toArray 28) = W := ⟨_, rfl⟩
  have hb : W.heap[w.heap.size]? = some (.cells s.cells.toArray 28 (0, 0)) := by subst hW; exact new_at _ _
  have hm : Mod (fun _ => False) w W := by subst hW; exact (Mod.refl _ w).alloc _
  obtain ⟨W2, hW2⟩ : ∃ W2, W.alloc (.cells s.cells.toArray 28) = W2 := ⟨_, rfl⟩
  have hb2 : W2.heap[W.heap.size]? = some (.cells s.cells.toArray 28 (0, 0)) := by subst hW2; exact new_at _ _
  have hm2 : Mod (fun _ => False) W W2 := by subst hW2; exact (Mod.refl _ _).alloc _
  have HX := Lib.hid ((hm2.block _ (lt_of hb) (fun x => x)).trans hb)
  have HM := Lib.hid (hm.trans hm2)
  have hlong := long_any (.slice (some ⟨W.heap.size, 0, none⟩) 1 1) [s] W2 (stsFlat W2 (fun _ => True) W.heap.size [s] 1 _ (by simpa using hb2) (by simp) trivial) (by simp) (by intro t ht; simp at ht; subst ht; exact ⟨h1, h2, h3, h4⟩)
  have hls : Hid (longS [s] = decide (262144 < s.n.size + s.u.size + s.g.size + s.m.size)) := by show _ = _; simp [longS, sumS]
  unfold St.cells at hb hW hW2
  unfold St.v St.cells
  obtain ⟨d0, d1, d2, d3, d4, d5, d6, d7, d8, d9, d10, d11, d12⟩ : ((W).cell? ⟨w.heap.size, 0, none⟩ = some (.int .u16 s.ty) ∧ (W).cell? ⟨w.heap.size, 1, none⟩ = some (.int .u32 s.dev) ∧ (W).cell? ⟨w.heap.size, 2, none⟩ = some (.int .u8 s.qt) ∧ (W).cell? ⟨w.heap.size, 3, none⟩ = some (.int .u32 s.qv) ∧ (W).cell? ⟨w.heap.size, 4, none⟩ = some (.int .u64 s.qp) ∧ (W).cell? ⟨w.heap.size, 5, none⟩ = some (.int .u32 s.mo) ∧ (W).cell? ⟨w.heap.size, 6, none⟩ = some (.int .u32 s.at_) ∧ (W).cell? ⟨w.heap.size, 7, none⟩ = some (.int .u32 s.mt) ∧ (W).cell? ⟨w.heap.size, 8, none⟩ = some (.int .u64 s.len) ∧ (W).cell? ⟨w.heap.size, 9, none⟩ = some (.string s.n) ∧ (W).cell? ⟨w.heap.size, 10, none⟩ = some (.string s.u) ∧ (W).cell? ⟨w.heap.size, 11, none⟩ = some (.string s.g) ∧ (W).cell? ⟨w.heap.size, 12, none⟩ = some (.string s.m)) := ⟨(cell_of (w := W) hb 0).trans rfl, (cell_of (w := W) hb 1).trans rfl, (cell_of (w := W) hb 2).trans rfl, (cell_of (w := W) hb 3).trans rfl, (cell_of (w := W) hb 4).trans rfl, (cell_of (w := W) hb 5).trans rfl, (cell_of (w := W) hb 6).trans rfl, (cell_of (w := W) hb 7).trans rfl, (cell_of (w := W) hb 8).trans rfl, (cell_of (w := W) hb 9).trans rfl, (cell_of (w := W) hb 10).trans rfl, (cell_of (w := W) hb 11).trans rfl, (cell_of (w := W) hb 12).trans rfl⟩
  generalize hlb : longS [s] = lb at *
  clear hb2 hm hm2
  go_enter Try.func5, Try.ntmps5
  go_wp2_with fail
  refine hlong.mono ?_
  rintro e w3 ⟨rfl, m3⟩
  have HX3 := Lib.hid ((m3.block _ (lt_of HX.out) (fun x => x)).trans HX.out)
  have HM3 := Lib.hid (HM.out.trans m3)
  clear HX HM m3 hlong
  cases lb
  · have hsm := of_decide_eq_false hls.out.symm
    clear hls hlb d0 d1 d2 d3 d4 d5 d6 d7 d8 d9 d10 d11 d12 hb hW hW2
    by_cases hbig : 131072 < b.size
    · have t1 : decide (131072 < (b.size : Int)) = true := by simp; omega
      go_wp2_with fail
      refine (works_any _).mono ?_
      rintro e w4 ⟨rfl, m4⟩
      go_wp2
      go_ret
      exact ⟨rfl, HM3.out.trans m4⟩
    have t1 : decide (131072 < (b.size : Int)) = false := by simp; omega
    have hX := HX3.out
    unfold St.cells at hX
    obtain ⟨d0, d1, d2, d3, d4, d5, d6, d7, d8, d9, d10, d11, d12⟩ : ((w3).cell? ⟨w.heap.size, 0, none⟩ = some (.int .u16 s.ty) ∧ (w3).cell? ⟨w.heap.size, 1, none⟩ = some (.int .u32 s.dev) ∧ (w3).cell? ⟨w.heap.size, 2, none⟩ = some (.int .u8 s.qt) ∧ (w3).cell? ⟨w.heap.size, 3, none⟩ = some (.int .u32 s.qv) ∧ (w3).cell? ⟨w.heap.size, 4, none⟩ = some (.int .u64 s.qp) ∧ (w3).cell? ⟨w.heap.size, 5, none⟩ = some (.int .u32 s.mo) ∧ (w3).cell? ⟨w.heap.size, 6, none⟩ = some (.int .u32 s.at_) ∧ (w3).cell? ⟨w.heap.size, 7, none⟩ = some (.int .u32 s.mt) ∧ (w3).cell? ⟨w.heap.size, 8, none⟩ = some (.int .u64 s.len) ∧ (w3).cell? ⟨w.heap.size, 9, none⟩ = some (.string s.n) ∧ (w3).cell? ⟨w.heap.size, 10, none⟩ = some (.string s.u) ∧ (w3).cell? ⟨w.heap.size, 11, none⟩ = some (.string s.g) ∧ (w3).cell? ⟨w.heap.size, 12, none⟩ = some (.string s.m)) := ⟨(cell_of (w := w3) hX 0).trans rfl, (cell_of (w := w3) hX 1).trans rfl, (cell_of (w := w3) hX 2).trans rfl, (cell_of (w := w3) hX 3).trans rfl, (cell_of (w := w3) hX 4).trans rfl, (cell_of (w := w3) hX 5).trans rfl, (cell_of (w := w3) hX 6).trans rfl, (cell_of (w := w3) hX 7).trans rfl, (cell_of (w := w3) hX 8).trans rfl, (cell_of (w := w3) hX 9).trans rfl, (cell_of (w := w3) hX 10).trans rfl, (cell_of (w := w3) hX 11).trans rfl, (cell_of (w := w3) hX 12).trans rfl⟩
    have hE := fun U => enc_any s U hk (by omega) (by omega) (by omega) (by omega)
    have hnb := next_enc s hk
    have hdb := dec_enc s hk
    have hsz := @encB_size s
    have hle := encB_le s
    rw [show (encS s).1 = encB s from rfl] at hE
    unfold St.v St.cells at hE
    generalize hea : encB s = ea at *
    generalize hee : (encS s).2 = ee at *
    clear hea hee
    go_wp2_with fail
    refine (hE _).mono ?_
    rintro e w4 ⟨rfl, m4⟩
    have HX4 := Lib.hid ((m4.block _ (lt_of HX3.out) (fun x => x)).trans HX3.out)
    have HM4 := Lib.hid (HM3.out.trans m4)
    clear d0 d1 d2 d3 d4 d5 d6 d7 d8 d9 d10 d11 d12 m4 hX hE HX3 HM3
    by_cases he : ee = 0
    · have hnb2 := hnb he b
      have hdb2 := hdb he
      clear hsz hnb hdb
      subst he
      have hD1 := fun U => dec_any ea U (by unfold maxLen; omega)
      rw [hdb2] at hD1
      have hN1 := fun U => next_any (ea ++ b) U (by rw [ByteArray.size_append]; unfold maxLen; omega)
      rw [hnb2] at hN1
      have hne := neq_any s s
      rw [(eqS_iff s s).2 rfl] at hne
      simp only at hD1 hN1
      unfold St.v St.cells at hD1 hN1 hne
      have hap : (ea ++ b).size = ea.size + b.size := ByteArray.size_append
      clear hnb2 hdb2
      obtain ⟨ab, hab⟩ : ∃ ab, ea ++ b = ab := ⟨_, rfl⟩
      rw [hab] at hN1 hap
      have hne2 : ((ea.size : Int) != (ea.size : Int)) = false := by simp
      go_wp2_with fail
      refine (hD1 _).mono ?_
      rintro e w5 ⟨rfl, m5⟩
      have HX5 := Lib.hid ((m5.block _ (lt_of HX4.out) (fun x => x)).trans HX4.out)
      have HM5 := Lib.hid (HM4.out.trans m5)
      obtain ⟨W6, hW6⟩ : ∃ W6, w5.alloc (.cells s.cells.toArray 28) = W6 := ⟨_, rfl⟩
      have hY6 : W6.heap[w5.heap.size]? = some (.cells s.cells.toArray 28 (0, 0)) := by subst hW6; exact new_at _ _
      have m6 : Mod (fun _ => False) w5 W6 := by subst hW6; exact (Mod.refl _ _).alloc _
      have HX6 := Lib.hid ((m6.block _ (lt_of HX5.out) (fun x => x)).trans HX5.out)
      have HM6 := Lib.hid (HM5.out.trans m6)
      unfold St.cells at hW6
      clear m5 m6 HX5 HM5 HX4 HM4 hD1
      go_wp2_with fail
      refine (hN1 _).mono ?_
      rintro e w7 ⟨rfl, m7⟩
      have HX7 := Lib.hid ((m7.block _ (lt_of HX6.out) (fun x => x)).trans HX6.out)
      have HY7 := Lib.hid ((m7.block _ (lt_of hY6) (fun x => x)).trans hY6)
      have HM7 := Lib.hid (HM6.out.trans m7)
      obtain ⟨W8, hW8⟩ : ∃ W8, w7.alloc (.cells s.cells.toArray 28) = W8 := ⟨_, rfl⟩
      have hY8 : W8.heap[w7.heap.size]? = some (.cells s.cells.toArray 28 (0, 0)) := by subst hW8; exact new_at _ _
      have m8 : Mod (fun _ => False) w7 W8 := by subst hW8; exact (Mod.refl _ _).alloc _
      have hX8 := (m8.block _ (lt_of HX7.out) (fun x => x)).trans HX7.out
      have hT8 := (m8.block _ (lt_of HY7.out) (fun x => x)).trans HY7.out
      have HM8 := Lib.hid (HM7.out.trans m8)
      unfold St.cells at hW8 hX8 hT8 hY8
      clear m7 m8 HX6 HM6 HX7 HM7 HY7 hY6 hN1 hW6
      obtain ⟨c0, c1, c2, c3, c4, c5, c6, c7, c8, c9, c10, c11, c12⟩ : ((W8).cell? ⟨w.heap.size, 0, none⟩ = some (.int .u16 s.ty) ∧ (W8).cell? ⟨w.heap.size, 1, none⟩ = some (.int .u32 s.dev) ∧ (W8).cell? ⟨w.heap.size, 2, none⟩ = some (.int .u8 s.qt) ∧ (W8).cell? ⟨w.heap.size, 3, none⟩ = some (.int .u32 s.qv) ∧ (W8).cell? ⟨w.heap.size, 4, none⟩ = some (.int .u64 s.qp) ∧ (W8).cell? ⟨w.heap.size, 5, none⟩ = some (.int .u32 s.mo) ∧ (W8).cell? ⟨w.heap.size, 6, none⟩ = some (.int .u32 s.at_) ∧ (W8).cell? ⟨w.heap.size, 7, none⟩ = some (.int .u32 s.mt) ∧ (W8).cell? ⟨w.heap.size, 8, none⟩ = some (.int .u64 s.len) ∧ (W8).cell? ⟨w.heap.size, 9, none⟩ = some (.string s.n) ∧ (W8).cell? ⟨w.heap.size, 10, none⟩ = some (.string s.u) ∧ (W8).cell? ⟨w.heap.size, 11, none⟩ = some (.string s.g) ∧ (W8).cell? ⟨w.heap.size, 12, none⟩ = some (.string s.m)) := ⟨(cell_of (w := W8) hX8 0).trans rfl, (cell_of (w := W8) hX8 1).trans rfl, (cell_of (w := W8) hX8 2).trans rfl, (cell_of (w := W8) hX8 3).trans rfl, (cell_of (w := W8) hX8 4).trans rfl, (cell_of (w := W8) hX8 5).trans rfl, (cell_of (w := W8) hX8 6).trans rfl, (cell_of (w := W8) hX8 7).trans rfl, (cell_of (w := W8) hX8 8).trans rfl, (cell_of (w := W8) hX8 9).trans rfl, (cell_of (w := W8) hX8 10).trans rfl, (cell_of (w := W8) hX8 11).trans rfl, (cell_of (w := W8) hX8 12).trans rfl⟩
      obtain ⟨d0, d1, d2, d3, d4, d5, d6, d7, d8, d9, d10, d11, d12⟩ : ((W8).cell? ⟨w5.heap.size, 0, none⟩ = some (.int .u16 s.ty) ∧ (W8).cell? ⟨w5.heap.size, 1, none⟩ = some (.int .u32 s.dev) ∧ (W8).cell? ⟨w5.heap.size, 2, none⟩ = some (.int .u8 s.qt) ∧ (W8).cell? ⟨w5.heap.size, 3, none⟩ = some (.int .u32 s.qv) ∧ (W8).cell? ⟨w5.heap.size, 4, none⟩ = some (.int .u64 s.qp) ∧ (W8).cell? ⟨w5.heap.size, 5, none⟩ = some (.int .u32 s.mo) ∧ (W8).cell? ⟨w5.heap.size, 6, none⟩ = some (.int .u32 s.at_) ∧ (W8).cell? ⟨w5.heap.size, 7, none⟩ = some (.int .u32 s.mt) ∧ (W8).cell? ⟨w5.heap.size, 8, none⟩ = some (.int .u64 s.len) ∧ (W8).cell? ⟨w5.heap.size, 9, none⟩ = some (.string s.n) ∧ (W8).cell? ⟨w5.heap.size, 10, none⟩ = some (.string s.u) ∧ (W8).cell? ⟨w5.heap.size, 11, none⟩ = some (.string s.g) ∧ (W8).cell? ⟨w5.heap.size, 12, none⟩ = some (.string s.m)) := ⟨(cell_of (w := W8) hT8 0).trans rfl, (cell_of (w := W8) hT8 1).trans rfl, (cell_of (w := W8) hT8 2).trans rfl, (cell_of (w := W8) hT8 3).trans rfl, (cell_of (w := W8) hT8 4).trans rfl, (cell_of (w := W8) hT8 5).trans rfl, (cell_of (w := W8) hT8 6).trans rfl, (cell_of (w := W8) hT8 7).trans rfl, (cell_of (w := W8) hT8 8).trans rfl, (cell_of (w := W8) hT8 9).trans rfl, (cell_of (w := W8) hT8 10).trans rfl, (cell_of (w := W8) hT8 11).trans rfl, (cell_of (w := W8) hT8 12).trans rfl⟩
      obtain ⟨e0, e1, e2, e3, e4, e5, e6, e7, e8, e9, e10, e11, e12⟩ : ((W8).cell? ⟨w7.heap.size, 0, none⟩ = some (.int .u16 s.ty) ∧ (W8).cell? ⟨w7.heap.size, 1, none⟩ = some (.int .u32 s.dev) ∧ (W8).cell? ⟨w7.heap.size, 2, none⟩ = some (.int .u8 s.qt) ∧ (W8).cell? ⟨w7.heap.size, 3, none⟩ = some (.int .u32 s.qv) ∧ (W8).cell? ⟨w7.heap.size, 4, none⟩ = some (.int .u64 s.qp) ∧ (W8).cell? ⟨w7.heap.size, 5, none⟩ = some (.int .u32 s.mo) ∧ (W8).cell? ⟨w7.heap.size, 6, none⟩ = some (.int .u32 s.at_) ∧ (W8).cell? ⟨w7.heap.size, 7, none⟩ = some (.int .u32 s.mt) ∧ (W8).cell? ⟨w7.heap.size, 8, none⟩ = some (.int .u64 s.len) ∧ (W8).cell? ⟨w7.heap.size, 9, none⟩ = some (.string s.n) ∧ (W8).cell? ⟨w7.heap.size, 10, none⟩ = some (.string s.u) ∧ (W8).cell? ⟨w7.heap.size, 11, none⟩ = some (.string s.g) ∧ (W8).cell? ⟨w7.heap.size, 12, none⟩ = some (.string s.m)) := ⟨(cell_of (w := W8) hY8 0).trans rfl, (cell_of (w := W8) hY8 1).trans rfl, (cell_of (w := W8) hY8 2).trans rfl, (cell_of (w := W8) hY8 3).trans rfl, (cell_of (w := W8) hY8 4).trans rfl, (cell_of (w := W8) hY8 5).trans rfl, (cell_of (w := W8) hY8 6).trans rfl, (cell_of (w := W8) hY8 7).trans rfl, (cell_of (w := W8) hY8 8).trans rfl, (cell_of (w := W8) hY8 9).trans rfl, (cell_of (w := W8) hY8 10).trans rfl, (cell_of (w := W8) hY8 11).trans rfl, (cell_of (w := W8) hY8 12).trans rfl⟩
      clear hX8 hT8 hY8
      obtain ⟨D, hD⟩ : ∃ D, decS b = D := ⟨_, rfl⟩
      have hDb := fun U => dec_any b U (by unfold maxLen; omega)
      have hok := enc_dec b
      have hokk : (decS b).1.Ok := by
        unfold decS
        split
        · exact zero_ok
        · split
          · exact zero_ok
          · exact nextS_ok b
      rw [hD] at hDb hok hokk
      obtain ⟨t, f⟩ := D
      simp only at hDb hok hokk
      unfold St.v St.cells at hDb
      go_wp2_with fail
      refine (hDb _).mono ?_
      rintro e x1 ⟨rfl, n1⟩
      have HMy := Lib.hid (HM8.out.trans n1)
      obtain ⟨X2, hX2⟩ : ∃ X2, x1.alloc (.cells t.cells.toArray 28) = X2 := ⟨_, rfl⟩
      have hXb : X2.heap[x1.heap.size]? = some (.cells t.cells.toArray 28 (0, 0)) := by subst hX2; exact new_at _ _
      have n2 : Mod (fun _ => False) x1 X2 := by subst hX2; exact (Mod.refl _ _).alloc _
      have HMz := Lib.hid (HMy.out.trans n2)
      unfold St.cells at hX2
      have hXb' := hXb
      unfold St.cells at hXb'
      obtain ⟨d0, d1, d2, d3, d4, d5, d6, d7, d8, d9, d10, d11, d12⟩ : (X2.cell? ⟨x1.heap.size, 0, none⟩ = some (.int .u16 t.ty) ∧ X2.cell? ⟨x1.heap.size, 1, none⟩ = some (.int .u32 t.dev) ∧ X2.cell? ⟨x1.heap.size, 2, none⟩ = some (.int .u8 t.qt) ∧ X2.cell? ⟨x1.heap.size, 3, none⟩ = some (.int .u32 t.qv) ∧ X2.cell? ⟨x1.heap.size, 4, none⟩ = some (.int .u64 t.qp) ∧ X2.cell? ⟨x1.heap.size, 5, none⟩ = some (.int .u32 t.mo) ∧ X2.cell? ⟨x1.heap.size, 6, none⟩ = some (.int .u32 t.at_) ∧ X2.cell? ⟨x1.heap.size, 7, none⟩ = some (.int .u32 t.mt) ∧ X2.cell? ⟨x1.heap.size, 8, none⟩ = some (.int .u64 t.len) ∧ X2.cell? ⟨x1.heap.size, 9, none⟩ = some (.string t.n) ∧ X2.cell? ⟨x1.heap.size, 10, none⟩ = some (.string t.u) ∧ X2.cell? ⟨x1.heap.size, 11, none⟩ = some (.string t.g) ∧ X2.cell? ⟨x1.heap.size, 12, none⟩ = some (.string t.m)) := ⟨(cell_of (w := X2) hXb' 0).trans rfl, (cell_of (w := X2) hXb' 1).trans rfl, (cell_of (w := X2) hXb' 2).trans rfl, (cell_of (w := X2) hXb' 3).trans rfl, (cell_of (w := X2) hXb' 4).trans rfl, (cell_of (w := X2) hXb' 5).trans rfl, (cell_of (w := X2) hXb' 6).trans rfl, (cell_of (w := X2) hXb' 7).trans rfl, (cell_of (w := X2) hXb' 8).trans rfl, (cell_of (w := X2) hXb' 9).trans rfl, (cell_of (w := X2) hXb' 10).trans rfl, (cell_of (w := X2) hXb' 11).trans rfl, (cell_of (w := X2) hXb' 12).trans rfl⟩
      clear hXb hXb' n1 n2 hDb hD
      by_cases hf : f = 0
      · obtain ⟨g0, g1, g2, g3, g4⟩ := hok hf
        have hE2 := fun U => enc_any t U hokk (by omega) (by omega) (by omega) (by omega)
        rw [g0] at hE2
        unfold St.v St.cells at hE2
        clear hok g0
        subst hf
        go_wp2_with fail
        refine (hE2 _).mono ?_
        rintro e x3 ⟨rfl, n3⟩
        have HMw := Lib.hid (HMz.out.trans n3)
        go_wp2_with fail
        refine (works_any _).mono ?_
        rintro e x4 ⟨rfl, n4⟩
        go_wp2
        go_ret
        exact ⟨rfl, HMw.out.trans n4⟩
      · have hft : (f == 0) = false := by simp [hf]
        clear hok
        go_wp2_with fail
        refine (works_any _).mono ?_
        rintro e x4 ⟨rfl, n4⟩
        go_wp2
        go_ret
        exact ⟨rfl, HMz.out.trans n4⟩
    · have het : (ee == 0) = false := by simp [he]
      clear hnb hdb hsz
      obtain ⟨D, hD⟩ : ∃ D, decS b = D := ⟨_, rfl⟩
      have hDb := fun U => dec_any b U (by unfold maxLen; omega)
      have hok := enc_dec b
      have hokk : (decS b).1.Ok := by
        unfold decS
        split
        · exact zero_ok
        · split
          · exact zero_ok
          · exact nextS_ok b
      rw [hD] at hDb hok hokk
      obtain ⟨t, f⟩ := D
      simp only at hDb hok hokk
      unfold St.v St.cells at hDb
      go_wp2_with fail
      refine (hDb _).mono ?_
      rintro e x1 ⟨rfl, n1⟩
      have HMy := Lib.hid (HM4.out.trans n1)
      obtain ⟨X2, hX2⟩ : ∃ X2, x1.alloc (.cells t.cells.toArray 28) = X2 := ⟨_, rfl⟩
      have hXb : X2.heap[x1.heap.size]? = some (.cells t.cells.toArray 28 (0, 0)) := by subst hX2; exact new_at _ _
      have n2 : Mod (fun _ => False) x1 X2 := by subst hX2; exact (Mod.refl _ _).alloc _
      have HMz := Lib.hid (HMy.out.trans n2)
      unfold St.cells at hX2
      have hXb' := hXb
      unfold St.cells at hXb'
      obtain ⟨d0, d1, d2, d3, d4, d5, d6, d7, d8, d9, d10, d11, d12⟩ : (X2.cell? ⟨x1.heap.size, 0, none⟩ = some (.int .u16 t.ty) ∧ X2.cell? ⟨x1.heap.size, 1, none⟩ = some (.int .u32 t.dev) ∧ X2.cell? ⟨x1.heap.size, 2, none⟩ = some (.int .u8 t.qt) ∧ X2.cell? ⟨x1.heap.size, 3, none⟩ = some (.int .u32 t.qv) ∧ X2.cell? ⟨x1.heap.size, 4, none⟩ = some (.int .u64 t.qp) ∧ X2.cell? ⟨x1.heap.size, 5, none⟩ = some (.int .u32 t.mo) ∧ X2.cell? ⟨x1.heap.size, 6, none⟩ = some (.int .u32 t.at_) ∧ X2.cell? ⟨x1.heap.size, 7, none⟩ = some (.int .u32 t.mt) ∧ X2.cell? ⟨x1.heap.size, 8, none⟩ = some (.int .u64 t.len) ∧ X2.cell? ⟨x1.heap.size, 9, none⟩ = some (.string t.n) ∧ X2.cell? ⟨x1.heap.size, 10, none⟩ = some (.string t.u) ∧ X2.cell? ⟨x1.heap.size, 11, none⟩ = some (.string t.g) ∧ X2.cell? ⟨x1.heap.size, 12, none⟩ = some (.string t.m)) := ⟨(cell_of (w := X2) hXb' 0).trans rfl, (cell_of (w := X2) hXb' 1).trans rfl, (cell_of (w := X2) hXb' 2).trans rfl, (cell_of (w := X2) hXb' 3).trans rfl, (cell_of (w := X2) hXb' 4).trans rfl, (cell_of (w := X2) hXb' 5).trans rfl, (cell_of (w := X2) hXb' 6).trans rfl, (cell_of (w := X2) hXb' 7).trans rfl, (cell_of (w := X2) hXb' 8).trans rfl, (cell_of (w := X2) hXb' 9).trans rfl, (cell_of (w := X2) hXb' 10).trans rfl, (cell_of (w := X2) hXb' 11).trans rfl, (cell_of (w := X2) hXb' 12).trans rfl⟩
      clear hXb hXb' n1 n2 hDb hD
      by_cases hf : f = 0
      · obtain ⟨g0, g1, g2, g3, g4⟩ := hok hf
        have hE2 := fun U => enc_any t U hokk (by omega) (by omega) (by omega) (by omega)
        rw [g0] at hE2
        unfold St.v St.cells at hE2
        clear hok g0
        subst hf
        go_wp2_with fail
        refine (hE2 _).mono ?_
        rintro e x3 ⟨rfl, n3⟩
        have HMw := Lib.hid (HMz.out.trans n3)
        go_wp2_with fail
        refine (works_any _).mono ?_
        rintro e x4 ⟨rfl, n4⟩
        go_wp2
        go_ret
        exact ⟨rfl, HMw.out.trans n4⟩
      · have hft : (f == 0) = false := by simp [hf]
        clear hok
        go_wp2_with fail
        refine (works_any _).mono ?_
        rintro e x4 ⟨rfl, n4⟩
        go_wp2
        go_ret
        exact ⟨rfl, HMz.out.trans n4⟩
  · go_wp2_with fail
    refine (works_any _).mono ?_
    rintro e w4 ⟨rfl, m4⟩
    go_wp2
    go_ret
    exact ⟨rfl, HM3.out.trans m4⟩

set_option maxRecDepth 100000 in
theorem contract (H : Type) (enc : TypeId × Value → H) (W : World) (base : Nat) (args : Array Value) (ds gs : List (DataW H)) (before : List MemPlace)
    (hval : ∀ (j : Nat) t v, Try.f5.params[j]? = some t → args[j]? = some v → Value.okWide Try.prog W .any base t v)
    (hW : DataW.Whole enc Try.prog Try.f5.params.toList Rows.statBackSpec.vars false W args.toList ds gs before)
    (hsz : (DataW.weightsEach Try.prog (Try.f5.params.toList ++ Rows.statBackSpec.plain.varTypes Try.prog) (ds ++ gs)).all (· ≤ reachBytes) = true) :
    Calls Try.prog 5 args W fun e W' => ∃ v, e = .returned v ∧ Rows.statBackSpec.post enc Try.prog Try.f5 false true false false W args v W' := by
  have hW' := hW
  obtain ⟨p, q, hA0, hV, rfl, hfz, hnd⟩ := hW
  have hA : DataW.TrodAll enc Try.prog W 0 (fun _ => true) true Try.f5.params.toList args.toList ds p := hA0
  rw [Try.params5] at hA hval hsz
  obtain ⟨v0, vs0, d0, ds0, p0, q0, hargs, rfl, rfl, h0, r0⟩ := trodAll_cons hA
  obtain ⟨v1, vs1, d1, ds1, p1, q1, rfl, rfl, rfl, h1, r1⟩ := trodAll_cons r0
  obtain ⟨rfl, rfl, rfl⟩ := trodAll_nil r1
  obtain rfl : args = #[v0, v1] := by cases args; simp_all
  obtain ⟨s, rfl, hk, hw⟩ := arg_stat (hval 0 28 v0 rfl rfl) h0
  obtain ⟨b, rfl, rfl, rfl, hb⟩ := open_string Try.underlying9 (hval 1 9 v1 rfl rfl) h1
  clear hA0
  obtain ⟨b1, b2, b3, b4⟩ := hw fun k hkm => by
    have := List.all_eq_true.1 hsz k (DataW.weights_mem_each (j := 0) (t := 28) rfl rfl k hkm)
    simpa using this
  unfold reachBytes at b1 b2 b3 b4
  refine (walk s b W hk (by omega) (by omega) (by omega) (by omega)).mono fun e W' ⟨he, hg⟩ => ?_
  subst he
  exact ⟨_, rfl, law_post hW' hg (by kernel_rfl) rfl rfl rfl rfl rfl⟩

set_option maxRecDepth 100000 in
theorem lifted (os : Os) (started : os.Started) (H : Type) (enc : TypeId × Value → H) :
    ReturnsInHanded {} Try.checked os 5 .any (Rows.statBackSpec.pre6 enc Try.prog Try.f5 Rows.statBackRow.domain false) (Rows.statBackSpec.post enc Try.prog Try.f5 false true false false) := by
  refine returnsInHanded_of_change_sized (C := Try.checked) own_knob started (by kernel_rfl) Try.func5
    (ChangeSpec.witness6 (enc := enc) (C := Try.checked) false ⟨#[], #[.agg #[.int .u16 0, .int .u32 0, .int .u8 0, .int .u32 0, .int .u64 0, .int .u32 0, .int .u32 0, .int .u32 0, .int .u64 0, .string .empty, .string .empty, .string .empty, .string .empty], .string .empty], []⟩ 8 (by kernel_rfl) (by kernel_rfl) (by kernel_rfl) (by kernel_rfl)) ?_
  intro W base args ds gs before hval hW _ hsz _
  exact contract H enc W base args ds gs before hval hW hsz

theorem proved : Rows.StatBackSaid :=
  OpenClaim.holds_of_wide 5 Try.f5 rfl rfl rfl rfl rfl rfl rfl ⟨rfl, rfl, rfl, rfl, rfl⟩ rfl rfl rfl rfl rfl (by kernel_rfl) Try.func5 (by kernel_rfl)
    (of_decide_eq_true (by kernel_rfl)) (by unfold Func.isWrapper; first | (rw [if_pos (by decide +kernel)]; kernel_rfl) | (rw [if_neg (by decide +kernel)]; exact ⟨rfl, rfl⟩))
    (fun os started H enc _ => lifted os started H enc)
end Go.Proofs.Ytjhhknmdnkkknaa.statBack
