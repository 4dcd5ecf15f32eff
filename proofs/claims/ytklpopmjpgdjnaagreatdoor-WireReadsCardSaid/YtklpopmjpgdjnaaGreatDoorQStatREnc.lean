/- The document's Qid and Encode. -/
import Derived.Test.YtklpopmjpgdjnaaGreatDoorQGa
import Derived.Test.YtklpopmjpgdjnaaGreatDoorQGd
import Derived.Test.YtklpopmjpgdjnaaGreatDoorQGc
set_option linter.unusedVariables false
set_option linter.unusedSimpArgs false
namespace Go.Proofs.YtklpopmjpgdjnaaGreatDoor
open Go.RowKit

set_option maxRecDepth 20000 in
set_option maxHeartbeats 2000000 in
theorem rqid_any (t v p : Nat) (w : World) (ht : t < 256) (hv : v < 4294967296) (hp : p < 18446744073709551616) :
    Calls Tryz.prog 81 #[.agg #[.int .u8 t, .int .u32 v, .int .u64 p]] w fun e w' => e = .returned (.string (bs (qidL t v p))) ∧ Mod (fun _ => False) w w' := by
  have hsz : ∀ n x, (bs (leBytes n x)).size = n := fun n x => by rw [bs_size, leBytes_length]
  have hap : ∀ a b : ByteArray, (a ++ b).size = a.size + b.size := fun a b => ByteArray.size_append
  have hw1 : IntKind.u64.wrap (t : Int) = t := by rw [IntKind.wrap_u64]; omega
  have hw2 : IntKind.u64.wrap (v : Int) = v := by rw [IntKind.wrap_u64]; omega
  obtain ⟨W, hW⟩ : ∃ W, w.alloc (.cells #[.int .u8 t, .int .u32 v, .int .u64 p] 28) = W := ⟨_, rfl⟩
  have hb : W.heap[w.heap.size]? = some (.cells #[.int .u8 t, .int .u32 v, .int .u64 p] 28 (0, 0)) := by subst hW; exact new_at _ _
  have hm : Mod (fun _ => False) w W := by subst hW; exact (Mod.refl _ w).alloc _
  have hS0 : W.drew.cell? ⟨w.heap.size, 0, none⟩ = some (.int .u8 t) ∧ W.drew.cell? ⟨w.heap.size, 1, none⟩ = some (.int .u32 v) ∧ W.drew.cell? ⟨w.heap.size, 2, none⟩ = some (.int .u64 p) := ⟨(cell_of (w := W.drew) hb 0).trans rfl, (cell_of (w := W.drew) hb 1).trans rfl, (cell_of (w := W.drew) hb 2).trans rfl⟩
  have hSk : ∀ (U V : World), (U.cell? ⟨w.heap.size, 0, none⟩ = some (.int .u8 t) ∧ U.cell? ⟨w.heap.size, 1, none⟩ = some (.int .u32 v) ∧ U.cell? ⟨w.heap.size, 2, none⟩ = some (.int .u64 p)) → Mod (fun _ => False) U V → (V.cell? ⟨w.heap.size, 0, none⟩ = some (.int .u8 t) ∧ V.cell? ⟨w.heap.size, 1, none⟩ = some (.int .u32 v) ∧ V.cell? ⟨w.heap.size, 2, none⟩ = some (.int .u64 p)) := by
    rintro U V ⟨h1, h2, h3⟩ hm
    have hb := hm.block _ (World.block_lt_of_cell? _ _ h1) (fun x => x)
    exact ⟨(World.cell?_of_block (a := ⟨w.heap.size, 0, none⟩) hb).trans h1, (World.cell?_of_block (a := ⟨w.heap.size, 1, none⟩) hb).trans h2, (World.cell?_of_block (a := ⟨w.heap.size, 2, none⟩) hb).trans h3⟩
  have Mc : Hid (Mod (fun _ => False) w W.drew) := hm.drew
  go_enter Tryz.func81, Tryz.ntmps81
  go_wp2
  refine wp_onlyN ?_
  go_region_held_law (fun w' => w'.cell? ⟨w.heap.size, 0, none⟩ = some (.int .u8 t) ∧ w'.cell? ⟨w.heap.size, 1, none⟩ = some (.int .u32 v) ∧ w'.cell? ⟨w.heap.size, 2, none⟩ = some (.int .u64 p)) (first | assumption | exact hSk _ _ (by assumption) m4) (first
    | (go_at_call 46; refine (n23m_any _ _ _ (by omega) (by decide) (by decide)).mono ?_; rintro e w4 ⟨rfl, m4⟩; have Mc := Lib.hid (Mc.out.trans m4)))
  refine onlyN_out ?_
  go_wp2
  go_ret
  exact ⟨by unfold qidL; rw [bs_cat, bs_cat]; rfl, Mc.out⟩

theorem t23t_any (s : ByteArray) (w : World) (hs : s.size ≤ 262144) :
    Calls Tryz.prog 133 #[.string s] w fun e w' => e = .returned (.string (bs (txt s))) ∧ Mod (fun _ => False) w w' := t23_any s w (by omega)
theorem keepc {U V : World} (hm : Mod (fun _ => False) U V) {b i : Nat} {v : Value} (h : U.cell? ⟨b, i, none⟩ = some v) : V.cell? ⟨b, i, none⟩ = some v :=
  (World.cell?_of_block (a := ⟨b, i, none⟩) (hm.block _ (World.block_lt_of_cell? _ _ h) (fun x => x))).trans h

set_option maxRecDepth 100000 in
set_option maxHeartbeats 4000000 in
theorem renc_any (s : St) (w : World) (hk : s.Ok) (hn : s.n.size ≤ 262144) (hu : s.u.size ≤ 262144) (hg : s.g.size ≤ 262144) (hm_ : s.m.size ≤ 262144) :
    Calls Tryz.prog 106 #[s.v] w fun e w' => e = .returned (.tuple #[.string (encS s).1, .int .i64 (encS s).2]) ∧ Mod (fun _ => False) w w' := by
  have hsz : ∀ n x, (bs (leBytes n x)).size = n := fun n x => by rw [bs_size, leBytes_length]
  have hap : ∀ a b : ByteArray, (a ++ b).size = a.size + b.size := fun a b => ByteArray.size_append
  obtain ⟨W, hW⟩ : ∃ W, w.alloc (.cells s.cells.toArray 31) = W := ⟨_, rfl⟩
  have hb : W.heap[w.heap.size]? = some (.cells s.cells.toArray 31 (0, 0)) := by subst hW; exact new_at _ _
  have hm : Mod (fun _ => False) w W := by subst hW; exact (Mod.refl _ w).alloc _
  unfold St.cells at hb hW
  unfold St.v St.cells
  have hSkN : ∀ (U V : World), ((U).cell? ⟨w.heap.size, 0, none⟩ = some (.int .u16 s.ty) ∧ (U).cell? ⟨w.heap.size, 1, none⟩ = some (.int .u32 s.dev) ∧ (U).cell? ⟨w.heap.size, 2, none⟩ = some (.int .u8 s.qt) ∧ (U).cell? ⟨w.heap.size, 3, none⟩ = some (.int .u32 s.qv) ∧ (U).cell? ⟨w.heap.size, 4, none⟩ = some (.int .u64 s.qp) ∧ (U).cell? ⟨w.heap.size, 5, none⟩ = some (.int .u32 s.mo) ∧ (U).cell? ⟨w.heap.size, 6, none⟩ = some (.int .u32 s.at_) ∧ (U).cell? ⟨w.heap.size, 7, none⟩ = some (.int .u32 s.mt) ∧ (U).cell? ⟨w.heap.size, 8, none⟩ = some (.int .u64 s.len)) → Mod (fun _ => False) U V → ((V).cell? ⟨w.heap.size, 0, none⟩ = some (.int .u16 s.ty) ∧ (V).cell? ⟨w.heap.size, 1, none⟩ = some (.int .u32 s.dev) ∧ (V).cell? ⟨w.heap.size, 2, none⟩ = some (.int .u8 s.qt) ∧ (V).cell? ⟨w.heap.size, 3, none⟩ = some (.int .u32 s.qv) ∧ (V).cell? ⟨w.heap.size, 4, none⟩ = some (.int .u64 s.qp) ∧ (V).cell? ⟨w.heap.size, 5, none⟩ = some (.int .u32 s.mo) ∧ (V).cell? ⟨w.heap.size, 6, none⟩ = some (.int .u32 s.at_) ∧ (V).cell? ⟨w.heap.size, 7, none⟩ = some (.int .u32 s.mt) ∧ (V).cell? ⟨w.heap.size, 8, none⟩ = some (.int .u64 s.len)) := by
    rintro U V ⟨h0, h1, h2, h3, h4, h5, h6, h7, h8⟩ hm
    exact ⟨keepc hm h0, keepc hm h1, keepc hm h2, keepc hm h3, keepc hm h4, keepc hm h5, keepc hm h6, keepc hm h7, keepc hm h8⟩
  have hSkT : ∀ (U V : World), ((U).cell? ⟨w.heap.size, 9, none⟩ = some (.string s.n) ∧ (U).cell? ⟨w.heap.size, 10, none⟩ = some (.string s.u) ∧ (U).cell? ⟨w.heap.size, 11, none⟩ = some (.string s.g) ∧ (U).cell? ⟨w.heap.size, 12, none⟩ = some (.string s.m)) → Mod (fun _ => False) U V → ((V).cell? ⟨w.heap.size, 9, none⟩ = some (.string s.n) ∧ (V).cell? ⟨w.heap.size, 10, none⟩ = some (.string s.u) ∧ (V).cell? ⟨w.heap.size, 11, none⟩ = some (.string s.g) ∧ (V).cell? ⟨w.heap.size, 12, none⟩ = some (.string s.m)) := by
    rintro U V ⟨h9, h10, h11, h12⟩ hm
    exact ⟨keepc hm h9, keepc hm h10, keepc hm h11, keepc hm h12⟩
  have hC : ((W).cell? ⟨w.heap.size, 0, none⟩ = some (.int .u16 s.ty) ∧ (W).cell? ⟨w.heap.size, 1, none⟩ = some (.int .u32 s.dev) ∧ (W).cell? ⟨w.heap.size, 2, none⟩ = some (.int .u8 s.qt) ∧ (W).cell? ⟨w.heap.size, 3, none⟩ = some (.int .u32 s.qv) ∧ (W).cell? ⟨w.heap.size, 4, none⟩ = some (.int .u64 s.qp) ∧ (W).cell? ⟨w.heap.size, 5, none⟩ = some (.int .u32 s.mo) ∧ (W).cell? ⟨w.heap.size, 6, none⟩ = some (.int .u32 s.at_) ∧ (W).cell? ⟨w.heap.size, 7, none⟩ = some (.int .u32 s.mt) ∧ (W).cell? ⟨w.heap.size, 8, none⟩ = some (.int .u64 s.len) ∧ (W).cell? ⟨w.heap.size, 9, none⟩ = some (.string s.n) ∧ (W).cell? ⟨w.heap.size, 10, none⟩ = some (.string s.u) ∧ (W).cell? ⟨w.heap.size, 11, none⟩ = some (.string s.g) ∧ (W).cell? ⟨w.heap.size, 12, none⟩ = some (.string s.m)) := ⟨(cell_of (w := W) hb 0).trans rfl, (cell_of (w := W) hb 1).trans rfl, (cell_of (w := W) hb 2).trans rfl, (cell_of (w := W) hb 3).trans rfl, (cell_of (w := W) hb 4).trans rfl, (cell_of (w := W) hb 5).trans rfl, (cell_of (w := W) hb 6).trans rfl, (cell_of (w := W) hb 7).trans rfl, (cell_of (w := W) hb 8).trans rfl, (cell_of (w := W) hb 9).trans rfl, (cell_of (w := W) hb 10).trans rfl, (cell_of (w := W) hb 11).trans rfl, (cell_of (w := W) hb 12).trans rfl⟩
  obtain ⟨d0, d1, d2, d3, d4, d5, d6, d7, d8, d9, d10, d11, d12⟩ := hC
  have htot : (47 : Int) + s.n.size + s.u.size + s.g.size + s.m.size = (s.tot : Int) := by unfold St.tot; omega
  go_enter Tryz.func106, Tryz.ntmps106
  by_cases h1 : 65535 < s.tot
  · have t1 : decide (65535 < (s.tot : Int)) = true := by simp; omega
    have hv : encS s = (ByteArray.empty, 4) := if_pos h1
    go_wp2
    go_ret2
    exact ⟨by rw [hv]; rfl, hm⟩
  · have t1 : decide (65535 < (s.tot : Int)) = false := by simp; omega
    have hv : encS s = (bs (leBytes 2 s.tot ++ s.body), 0) := if_neg h1
    have w0 : IntKind.u64.wrap (s.tot : Int) = s.tot := by rw [IntKind.wrap_u64]; omega
    have w1' : IntKind.u64.wrap (s.ty : Int) = s.ty := by have := hk.ty; rw [IntKind.wrap_u64]; omega
    have w2' : IntKind.u64.wrap (s.dev : Int) = s.dev := by have := hk.dev; rw [IntKind.wrap_u64]; omega
    have w3' : IntKind.u64.wrap (s.mo : Int) = s.mo := by have := hk.mo; rw [IntKind.wrap_u64]; omega
    have w4' : IntKind.u64.wrap (s.at_ : Int) = s.at_ := by have := hk.at_; rw [IntKind.wrap_u64]; omega
    have w5' : IntKind.u64.wrap (s.mt : Int) = s.mt := by have := hk.mt; rw [IntKind.wrap_u64]; omega
    have hS0 : ((W.drew).cell? ⟨w.heap.size, 0, none⟩ = some (.int .u16 s.ty) ∧ (W.drew).cell? ⟨w.heap.size, 1, none⟩ = some (.int .u32 s.dev) ∧ (W.drew).cell? ⟨w.heap.size, 2, none⟩ = some (.int .u8 s.qt) ∧ (W.drew).cell? ⟨w.heap.size, 3, none⟩ = some (.int .u32 s.qv) ∧ (W.drew).cell? ⟨w.heap.size, 4, none⟩ = some (.int .u64 s.qp) ∧ (W.drew).cell? ⟨w.heap.size, 5, none⟩ = some (.int .u32 s.mo) ∧ (W.drew).cell? ⟨w.heap.size, 6, none⟩ = some (.int .u32 s.at_) ∧ (W.drew).cell? ⟨w.heap.size, 7, none⟩ = some (.int .u32 s.mt) ∧ (W.drew).cell? ⟨w.heap.size, 8, none⟩ = some (.int .u64 s.len)) := ⟨d0, d1, d2, d3, d4, d5, d6, d7, d8⟩
    have hT0 : ((W.drew).cell? ⟨w.heap.size, 9, none⟩ = some (.string s.n) ∧ (W.drew).cell? ⟨w.heap.size, 10, none⟩ = some (.string s.u) ∧ (W.drew).cell? ⟨w.heap.size, 11, none⟩ = some (.string s.g) ∧ (W.drew).cell? ⟨w.heap.size, 12, none⟩ = some (.string s.m)) := ⟨d9, d10, d11, d12⟩
    have Mc : Hid (Mod (fun _ => False) w W.drew) := hm.drew
    have HT : Hid (((W.drew).cell? ⟨w.heap.size, 9, none⟩ = some (.string s.n) ∧ (W.drew).cell? ⟨w.heap.size, 10, none⟩ = some (.string s.u) ∧ (W.drew).cell? ⟨w.heap.size, 11, none⟩ = some (.string s.g) ∧ (W.drew).cell? ⟨w.heap.size, 12, none⟩ = some (.string s.m))) := hT0
    clear hT0
    have k1 := hk.ty
    have k2 := hk.dev
    have k3 := hk.qt
    have k4 := hk.qv
    have k5 := hk.qp
    have k6 := hk.mo
    have k7 := hk.at_
    have k8 := hk.mt
    have k9 := hk.len
    have hbn : ∀ x, (txt x).length = 2 + x.size := txt_length
    have hsq : ∀ t v p, (bs (qidL t v p)).size = 13 := fun t v p => by rw [bs_size]; simp [qidL, leBytes_length]
    go_wp2
    clear hb hm hW d0 d1 d2 d3 d4 d5 d6 d7 d8 d9 d10 d11 d12
    refine wp_onlyN ?_
    go_region_held_law (fun w' => ((w').cell? ⟨w.heap.size, 0, none⟩ = some (.int .u16 s.ty) ∧ (w').cell? ⟨w.heap.size, 1, none⟩ = some (.int .u32 s.dev) ∧ (w').cell? ⟨w.heap.size, 2, none⟩ = some (.int .u8 s.qt) ∧ (w').cell? ⟨w.heap.size, 3, none⟩ = some (.int .u32 s.qv) ∧ (w').cell? ⟨w.heap.size, 4, none⟩ = some (.int .u64 s.qp) ∧ (w').cell? ⟨w.heap.size, 5, none⟩ = some (.int .u32 s.mo) ∧ (w').cell? ⟨w.heap.size, 6, none⟩ = some (.int .u32 s.at_) ∧ (w').cell? ⟨w.heap.size, 7, none⟩ = some (.int .u32 s.mt) ∧ (w').cell? ⟨w.heap.size, 8, none⟩ = some (.int .u64 s.len))) (first | assumption | exact hSkN _ _ (by assumption) m4) (first
      | (go_at_call 46; refine (n23m_any _ _ _ (by omega) (by decide) (by decide)).mono ?_; rintro e w4 ⟨rfl, m4⟩; have HT := Lib.hid (hSkT _ _ HT.out m4); have Mc := Lib.hid (Mc.out.trans m4))
      | (go_at_call 81; refine (rqid_any _ _ _ _ k3 k4 k5).mono ?_; rintro e w4 ⟨rfl, m4⟩; have HT := Lib.hid (hSkT _ _ HT.out m4); have Mc := Lib.hid (Mc.out.trans m4)))
    refine onlyN_out ?_
    have hS1 : ((w4.drew).cell? ⟨w.heap.size, 9, none⟩ = some (.string s.n) ∧ (w4.drew).cell? ⟨w.heap.size, 10, none⟩ = some (.string s.u) ∧ (w4.drew).cell? ⟨w.heap.size, 11, none⟩ = some (.string s.g) ∧ (w4.drew).cell? ⟨w.heap.size, 12, none⟩ = some (.string s.m)) := HT.out
    obtain ⟨hd, hhd⟩ : ∃ hd, bs (leBytes 2 s.tot) ++ bs (leBytes 2 s.ty) ++ bs (leBytes 4 s.dev) ++ bs (qidL s.qt s.qv s.qp) ++ bs (leBytes 4 s.mo) ++ bs (leBytes 4 s.at_) ++ bs (leBytes 4 s.mt) ++ bs (leBytes 8 s.len) = hd := ⟨_, rfl⟩
    have hds : hd.size = 41 := by rw [← hhd]; simp only [hap, hsz, hsq]
    have hst : ∀ x : ByteArray, (bs (txt x)).size = 2 + x.size := fun x => by rw [bs_size, txt_length]
    have hfin := enc_split s
    rw [hhd] at hfin
    have HFIN := Lib.hid hfin
    have Md : Hid (Mod (fun _ => False) w w4.drew) := Mc.out.drew
    rw [hhd]
    clear hfin HT w0 w1' w2' w3' w4' w5' hS0 hhd m4
    go_wp2
    refine wp_onlyN ?_
    go_region_held_law (fun w' => ((w').cell? ⟨w.heap.size, 9, none⟩ = some (.string s.n) ∧ (w').cell? ⟨w.heap.size, 10, none⟩ = some (.string s.u) ∧ (w').cell? ⟨w.heap.size, 11, none⟩ = some (.string s.g) ∧ (w').cell? ⟨w.heap.size, 12, none⟩ = some (.string s.m))) (first | assumption | exact hSkT _ _ (by assumption) m5) (first
      | (go_at_call 133; refine (t23t_any _ _ (by first | exact hn | exact hu | exact hg | exact hm_)).mono ?_; rintro e w5 ⟨rfl, m5⟩; have Md := Lib.hid (Md.out.trans m5)))
    all_goals refine onlyN_out ?_
    all_goals go_wp2
    all_goals go_ret2
    all_goals exact ⟨by rw [hv, HFIN.out]; rfl, Md.out⟩
end Go.Proofs.YtklpopmjpgdjnaaGreatDoor
