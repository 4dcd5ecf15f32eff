/- Package slices' DeleteFunc over waits, as fids uses it: who waited is told. -/
import Derived.Test.YtcadkaedahoefaaFidDel
namespace Go.Proofs.Ytcadkaedahoefaa
open Go.RowKit

/-- the tag that ends, in its box; who is told, in its own -/
structure ToldAt (W : World) (bt bd tag : Nat) (T : List Nat) : Prop where
  tag : W.cell? ⟨bt, 0, none⟩ = some (.int .u16 tag)
  lt : bt < bd
  box : ∃ vt, W.heap[bd]? = some (.cells #[vt] 34 (0, 0)) ∧ OwnA W (bd + 1) 1 vt T.length (u16s T)
theorem ToldAt.mod {W W' : World} {bt bd tag : Nat} {T : List Nat} {S : Nat → Prop} (h : ToldAt W bt bd tag T) (hm : Mod S W W') (h1 : ¬ S bt) (h2 : ∀ k, bd ≤ k → ¬ S k) : ToldAt W' bt bd tag T := by
  obtain ⟨ht, hl, vt, hb, ho⟩ := h
  exact ⟨(World.cell?_of_block (a := ⟨bt, 0, none⟩) (hm.block bt (lt_of_cell ht) h1)).trans ht, hl, vt, (hm.block bd (lt_of hb) (h2 bd (Nat.le_refl _))).trans hb, ho.mod hm fun k hk => h2 k (by omega)⟩
/-- what telling may turn -/
def toldF (W : World) (bd k : Nat) : Prop := k = bd ∨ ∃ vt, W.heap[bd]? = some (.cells #[vt] 34 (0, 0)) ∧ some k = vt.ownBlock
theorem toldF_lt {W : World} {bt bd tag : Nat} {T : List Nat} (h : ToldAt W bt bd tag T) {k : Nat} (hk : toldF W bd k) : bd ≤ k ∧ k < W.heap.size := by
  obtain ⟨_, _, vt, hb, ho⟩ := h
  rcases hk with rfl | ⟨vt', hb', hk⟩
  · exact ⟨Nat.le_refl _, lt_of hb⟩
  · rw [hb] at hb'
    injection hb' with hb'
    injection hb' with hb'
    have e : vt = vt' := by simpa using hb'
    subst e
    have := ho.lt k hk
    exact ⟨by omega, this.2⟩
theorem toldF_same {W W' : World} {bd k : Nat} (h : W'.heap[bd]? = W.heap[bd]?) (hk : toldF W' bd k) : toldF W bd k := by
  rcases hk with rfl | ⟨vt, hb, hk⟩
  · exact Or.inl rfl
  · exact Or.inr ⟨vt, h.symm.trans hb, hk⟩
def toldS (tag : Nat) (p : Nat × Nat) : Bool := decide (p.2 = tag) && decide (p.1 ≠ tag)
def goneS (tag : Nat) (p : Nat × Nat) : Bool := decide (p.2 = tag) || decide (p.1 = tag)
def tellS (tag : Nat) (p : Nat × Nat) (T : List Nat) : List Nat := T ++ (if toldS tag p = true then [p.1] else [])
/-- one more is told -/
theorem told_push {W W1 w3 : World} {bt bd tag : Nat} {T T' : List Nat} {vt v' : Value} (ht : W1.cell? ⟨bt, 0, none⟩ = some (.int .u16 tag)) (hl : bt < bd) (hb : W1.heap[bd]? = some (.cells #[vt] 34 (0, 0)))
    (ho : OwnA W (bd + 1) 1 vt T.length (u16s T)) (m : Mod (fun k => some k = vt.ownBlock) W1 w3) (h3 : OwnA w3 (bd + 1) 1 v' T'.length (u16s T')) :
    w3.cell? ⟨bd, 0, none⟩ = some vt ∧ w3.frozen? ⟨bd, 0, none⟩ = false ∧ ToldAt (w3.setCell ⟨bd, 0, none⟩ v') bt bd tag T' ∧ Mod (toldF W1 bd) W1 (w3.setCell ⟨bd, 0, none⟩ v') ∧ ∀ p, p ≠ bd → W.heap.size ≤ p → p < W1.heap.size → (w3.setCell ⟨bd, 0, none⟩ v').heap[p]? = W1.heap[p]? := by
  have hb3 := (m.block bd (lt_of hb) (fun x => by have := (ho.lt bd x).1; omega)).trans hb
  have hs : Mod (· = bd) w3 (w3.setCell ⟨bd, 0, none⟩ v') := Mod.set1 _ _ _ _
  have ht3 := (World.cell?_of_block (a := ⟨bt, 0, none⟩) (m.block bt (lt_of_cell ht) (fun x => by have := (ho.lt bt x).1; omega))).trans ht
  refine ⟨(cell_of hb3 0).trans rfl, free_of hb3 0, ⟨(World.cell?_of_block (a := ⟨bt, 0, none⟩) (hs.block bt (lt_of_cell ht3) (by omega))).trans ht3, hl, v', heap_set hb3 0 v', h3.mod hs fun k hk => by omega⟩, ?_, fun p h1 h2 h4 => ?_⟩
  · exact (m.mono fun k _ hk => Or.inr ⟨vt, hb, hk⟩).trans' hs fun k _ e => Or.inl e
  · rw [hs.block p (Nat.lt_of_lt_of_le h4 m.size) h1, m.block p h4 (fun x => by have := (ho.lt p x).2; omega)]
set_option maxHeartbeats 1000000 in
set_option maxRecDepth 100000 in
theorem end2_any (bt bd x y tag : Nat) (T : List Nat) (W : World) (h : ToldAt W bt bd tag T) (hT : T.length ≤ 1000000) :
    Calls Try.prog 34 #[.agg #[.int .u16 x, .int .u16 y], .pointer (some ⟨bt, 0, none⟩), .pointer (some ⟨bd, 0, none⟩)] W fun e w' =>
      e = .returned (.bool (goneS tag (x, y))) ∧ ToldAt w' bt bd tag (tellS tag (x, y) T) ∧ Mod (toldF W bd) W w' := by
  have hto : tellS tag (x, y) T = T ++ (if (decide (y = tag) && decide (x ≠ tag)) = true then [x] else []) := rfl
  have hgo : goneS tag (x, y) = (decide (y = tag) || decide (x = tag)) := rfl
  obtain ⟨W1, hW1⟩ : ∃ W1, W.alloc (.cells #[.int .u16 x, .int .u16 y] 77) = W1 := ⟨_, rfl⟩
  have hB : W1.heap[W.heap.size]? = some (.cells #[.int .u16 x, .int .u16 y] 77 (0, 0)) := by subst hW1; exact new_at _ _
  have m1 : Mod (fun _ => False) W W1 := by subst hW1; exact (Mod.refl _ _).alloc _
  have b0 : W1.cell? ⟨W.heap.size, 0, none⟩ = some (.int .u16 x) := (cell_of hB 0).trans rfl
  have b1 : W1.cell? ⟨W.heap.size, 1, none⟩ = some (.int .u16 y) := (cell_of hB 1).trans rfl
  have H1 := Lib.hid (h.mod m1 (fun x => x) (fun _ _ x => x))
  obtain ⟨ht0, hl, vt, hb0, ho0⟩ := h
  have ht := (World.cell?_of_block (a := ⟨bt, 0, none⟩) (m1.block bt (lt_of_cell ht0) (fun x => x))).trans ht0
  have hb := (m1.block bd (lt_of hb0) (fun x => x)).trans hb0
  obtain ⟨va, vc, rfl, hvc⟩ := ho0.form
  have hWs : bd < W.heap.size := lt_of hb0
  have hHs : W.heap.size < W1.heap.size := lt_of hB
  have q0 : W1.cell? ⟨bd, 0, none⟩ = some (.slice va T.length vc) := (cell_of hb 0).trans rfl
  have HO0 := Lib.hid ho0
  have HB := Lib.hid hb
  have M1 : Hid (Mod (toldF W bd) W W1) := m1.mono fun _ _ x => x.elim
  have HSame := Lib.hid (hb.trans hb0.symm)
  have HO := Lib.hid (ho0.mod m1 (fun _ _ x => x))
  clear ho0 hb0 hb m1 ht0
  by_cases hy : y = tag
  · subst hy
    have u1 : ((y : Int) == (y : Int)) = true := by simp
    by_cases hx : x = y
    · subst hx
      have u2 : ((x : Int) != (x : Int)) = false := by simp
      have HG : Hid (goneS x (x, x) = true) := by show _ = _; rw [hgo]; simp
      have HT : Hid (tellS x (x, x) T = T) := by show _ = _; rw [hto]; simp
      clear hto hgo
      go_enter Try.func34, Try.ntmps34
      go_wp2
      go_ret
      exact ⟨by rw [HG.out]; rfl, by rw [HT.out]; exact H1.out, M1.out⟩
    · have u2 : ((x : Int) != (y : Int)) = true := by simp; omega
      have u3 : ((x : Int) == (y : Int)) = false := by simp; omega
      have HG : Hid (goneS y (x, y) = true) := by show _ = _; rw [hgo]; simp
      have HT : Hid (tellS y (x, y) T = T ++ [x]) := by show _ = _; rw [hto]; simp [hx]
      clear hto hgo hx
      have MA := Lib.hid ((Mod.refl (fun _ => False) W1).alloc (.cells #[.int .u16 x] 29))
      have HO2 : Hid (OwnA (W1.alloc (.cells #[.int .u16 x] 29)) (bd + 1) 1 (.slice va T.length vc) T.length (u16s T)) := HO.out.mod MA.out (fun _ _ x => x)
      have A2 := Lib.hid (src_u16 W1 x)
      have C1 : Hid ((T.length + 1) * 2 ≤ 140737488355328) := by show _ ≤ _; omega
      have C2 : Hid (T.length + 1 ≤ 9223372036854775807) := by show _ ≤ _; omega
      have C3 : Hid (bd + 1 ≤ (W1.alloc (.cells #[.int .u16 x] 29)).heap.size) := by show _ ≤ _; rw [World.size_alloc]; omega
      go_enter Try.func34, Try.ntmps34
      go_wp2_with (refine wpl_appendB rfl (.tmp 15) (.tmp 18) _ _ rfl (bd + 1) 29 (.int .u16 0) 1 2 Try.underlying34 info_u16 rfl (by decide) _ _ _ rfl HO2.out _ 1 _ rfl A2.out C1.out C2.out C3.out ?_; intro v' w3 hown' hgrow hblk; have hmd := (MA.out.mono (T := fun k => some k = (Value.slice va T.length vc).ownBlock) (fun _ _ x => x.elim)).trans hgrow; rw [show u16s T ++ u16s [x] = u16s (T ++ [x]) from (u16s_append _ _).symm] at hown'; obtain ⟨va2, vc2, rfl, _⟩ := hown'.form; obtain ⟨p1, p2, p3, p4, p5⟩ := told_push (T' := T ++ [x]) ht hl HB.out HO0.out hmd (by rw [List.length_append]; exact hown'); obtain ⟨w4, hw4⟩ : ∃ w4, w3.setCell ⟨bd, 0, none⟩ (.slice va2 (T.length + 1) vc2) = w4 := ⟨_, rfl⟩; rw [hw4] at p3 p4 p5; have p6 := p5 W.heap.size (by omega) (Nat.le_refl _) hHs; have d0 : w4.cell? ⟨W.heap.size, 0, none⟩ = some (.int .u16 x) := (World.cell?_of_block (a := ⟨W.heap.size, 0, none⟩) p6).trans b0; have d1 : w4.cell? ⟨W.heap.size, 1, none⟩ = some (.int .u16 y) := (World.cell?_of_block (a := ⟨W.heap.size, 1, none⟩) p6).trans b1; have d2 := p3.tag; have P3 := Lib.hid p3; have P4 : Hid (Mod (toldF W bd) W w4) := M1.out.trans (p4.mono fun k _ hk => toldF_same HSame.out hk); clear p3 p4 p5 p6 hown' hgrow hblk hmd)
      go_ret
      exact ⟨by rw [HG.out]; rfl, by rw [HT.out]; exact P3.out, P4.out⟩
  · have u1 : ((y : Int) == (tag : Int)) = false := by simp; omega
    have HT : Hid (tellS tag (x, y) T = T) := by show _ = _; rw [hto]; simp [hy]
    by_cases hx : x = tag
    · subst hx
      have u2 : ((x : Int) == (x : Int)) = true := by simp
      have HG : Hid (goneS x (x, y) = true) := by show _ = _; rw [hgo]; simp
      clear hto hgo
      go_enter Try.func34, Try.ntmps34
      go_wp2
      go_ret
      exact ⟨by rw [HG.out]; rfl, by rw [HT.out]; exact H1.out, M1.out⟩
    · have u2 : ((x : Int) == (tag : Int)) = false := by simp; omega
      have HG : Hid (goneS tag (x, y) = false) := by show _ = _; rw [hgo]; simp [hx, hy]
      clear hto hgo
      go_enter Try.func34, Try.ntmps34
      go_wp2
      go_ret
      exact ⟨by rw [HG.out]; rfl, by rw [HT.out]; exact H1.out, M1.out⟩
end Go.Proofs.Ytcadkaedahoefaa
