/- Arguments that are rows of messages, and rows of small numbers. -/
import Derived.Test.YtklpopmjpgdjnaaGreatDoorQGh
set_option linter.unusedVariables false
set_option linter.unusedSimpArgs false
namespace Go.Proofs.YtklpopmjpgdjnaaGreatDoor
open Go.ChangeShapes Go.WideShapes Go.ChangeAt Go.RowKit

/-- a row of messages in memory -/
def MsgsAt (w : World) (v : Value) (L : List Msg) : Prop := ∃ a cap, v = .slice a L.length cap ∧ L.length ≤ cap ∧
  ∀ j m, L[j]? = some m → ∃ g off vn vq, a = some ⟨g, off, none⟩ ∧ g < w.heap.size ∧ w.rangeAt g (off + j * 36) (m.cells vn vq) ∧ SlAt w (fun _ => True) vn (m.names.map Value.string) ∧ RecsAt Qd.cells 3 w (fun _ => True) vq m.qids
theorem rangeAt_mod {w w' : World} {g o : Nat} {cs : List Value} (h : w.rangeAt g o cs) (hm : Mod (fun _ => False) w w') (hg : g < w.heap.size) : w'.rangeAt g o cs := fun j u hu =>
  (World.cell?_of_block (a := ⟨g, o + j, none⟩) (hm.block g hg (fun x => x))).trans (h j u hu)
theorem MsgsAt.mod {w w' : World} {v : Value} {L : List Msg} (h : MsgsAt w v L) (hm : Mod (fun _ => False) w w') : MsgsAt w' v L := by
  obtain ⟨a, cap, h1, h2, h3⟩ := h
  refine ⟨a, cap, h1, h2, fun j m hj => ?_⟩
  obtain ⟨g, off, vn, vq, k1, k2, k3, k4, k5⟩ := h3 j m hj
  exact ⟨g, off, vn, vq, k1, Nat.lt_of_lt_of_le k2 hm.size, rangeAt_mod k3 hm k2, k4.mod hm fun _ _ _ x => x, k5.mod hm fun _ _ _ x => x⟩
set_option maxRecDepth 100000 in
set_option maxHeartbeats 1000000 in
/-- an argument that is a row of messages -/
theorem arg_msgs {H : Type} {enc : TypeId × Value → H} {W : World} {base : Nat} {v : Value} {d : DataW H} {ps : List MemPlace} (hval : Value.okWide Tryz.prog W .any base 47 v)
    (h : DataW.Trod enc Tryz.prog W 0 (fun _ => true) true 47 v d ps) : ∃ L : List Msg, MsgsAt W v L ∧ (∀ m ∈ L, m.Ok) ∧ ((∀ k ∈ d.weights Tryz.prog 47, k ≤ reachBytes) → L.length ≤ reachBytes ∧ ∀ m ∈ L, m.Reach) := by
  obtain ⟨a0, len, cap, rfl⟩ := okWide_slice Tryz.underlying47 hval
  obtain ⟨fuel, hf⟩ := h
  rcases Go.Deep.open_slice Tryz.underlying47 hf with ⟨hcs, hx⟩ | ⟨a, len', cap', m, n, D, Pl, hcs, _, hl, hm, hmm, hx, hi⟩
  · simp only [Value.cells, List.cons.injEq, and_true] at hcs
    injection hcs with e1 e2 e3
    subst e2
    exact ⟨[], ⟨a0, cap, rfl, Nat.zero_le _, fun j m hj => by simp at hj⟩, (fun s hs => by cases hs), fun _ => ⟨Nat.zero_le _, fun s hs => by cases hs⟩⟩
  · simp only [Value.cells, List.cons.injEq, and_true] at hcs
    injection hcs with e1 e2 e3
    subst e1 e2 e3
    simp only [if_true] at hmm
    subst hmm
    simp only [Prod.mk.injEq] at hx
    obtain ⟨rfl, _⟩ := hx
    rw [show Tryz.prog.cellsOf 33 = 36 from by kernel_rfl] at hi
    have hex : ∀ i, ∃ x : Msg × Value × Value, i < len → (∀ j, j < 36 → W.cell? ((a.add (i * 36)).add j) = (x.1.cells x.2.1 x.2.2)[j]?) ∧ x.1.Ok ∧ SlAt W (fun _ => True) x.2.1 (x.1.names.map Value.string) ∧ RecsAt Qd.cells 3 W (fun _ => True) x.2.2 x.1.qids ∧ ((∀ k ∈ (D i).weights Tryz.prog 33, k ≤ reachBytes) → x.1.Reach) := by
      intro i
      by_cases h : i < len
      · obtain ⟨cs', h1, h2⟩ := hi i (by omega)
        obtain ⟨s, vn, vq, rfl, hk, hn, hq, hw⟩ := trod_msg h2
        exact ⟨(s, vn, vq), fun _ => ⟨(World.cells?_some h1).2.2, hk, hn, hq, hw⟩⟩
      · exact ⟨(Msg.zero, .bool false, .bool false), fun x => absurd x h⟩
    obtain ⟨S, hS'⟩ : ∃ S : Nat → Msg × Value × Value, ∀ i, i < len → (∀ j, j < 36 → W.cell? ((a.add (i * 36)).add j) = ((S i).1.cells (S i).2.1 (S i).2.2)[j]?) ∧ (S i).1.Ok ∧ SlAt W (fun _ => True) (S i).2.1 ((S i).1.names.map Value.string) ∧ RecsAt Qd.cells 3 W (fun _ => True) (S i).2.2 (S i).1.qids ∧ ((∀ k ∈ (D i).weights Tryz.prog 33, k ≤ reachBytes) → (S i).1.Reach) := ⟨fun i => (hex i).choose, fun i => (hex i).choose_spec⟩
    have hlen : ((List.range len).map fun i => (S i).1).length = len := by simp
    refine ⟨(List.range len).map fun i => (S i).1, ⟨some a, m, by rw [hlen], by rw [hlen]; exact hl, fun j s hj => ?_⟩, ?_, fun hw => ⟨?_, ?_⟩⟩
    · rw [List.getElem?_map] at hj
      have hjl : j < len := by
        rcases Nat.lt_or_ge j len with g | g
        · exact g
        · rw [List.getElem?_eq_none (by rw [List.length_range]; exact g)] at hj; cases hj
      rw [List.getElem?_range hjl] at hj
      injection hj with hj
      subst hj
      obtain ⟨k1, k2, k3, k4, _⟩ := hS' j hjl
      have hc0 := k1 0 (by omega)
      have ha : a = ⟨a.block, a.off, none⟩ := by
        have h3 := addr_form (v := .int .u8 (S 0).1.ty) ((hS' 0 (by omega)).1 0 (by omega))
        rw [Nat.zero_mul] at h3
        obtain ⟨b, o, sp⟩ := a
        cases sp with
        | none => rfl
        | some _ => simp [Addr.add] at h3
      have hadd : ∀ x y, (a.add x).add y = ⟨a.block, a.off + x + y, none⟩ := fun x y => by rw [ha, add_plain, add_plain]
      rw [hadd] at hc0
      refine ⟨a.block, a.off, (S j).2.1, (S j).2.2, by rw [← ha], World.block_lt_of_cell? W ⟨a.block, a.off + j * 36 + 0, none⟩ (u := .int .u8 (S j).1.ty) hc0, fun i u hu => ?_, k3, k4⟩
      have hi13 : i < 36 := (List.getElem?_eq_some_iff.1 hu).1
      have := k1 i hi13
      rw [hadd] at this
      exact this.trans hu
    · intro s hs
      obtain ⟨i, hi2, rfl⟩ := List.mem_map.1 hs
      exact (hS' i (List.mem_range.1 hi2)).2.1
    · rw [hlen]
      have := hw ((len + (m - len)) * Tryz.prog.bytesOf 33) (by simp [DataW.weights, Tryz.underlying47])
      have h0 : 0 < Tryz.prog.bytesOf 33 := of_decide_eq_true (by kernel_rfl)
      have h1 : len + (m - len) ≤ (len + (m - len)) * Tryz.prog.bytesOf 33 := Nat.le_mul_of_pos_right _ h0
      omega
    · intro s hs
      obtain ⟨i, hi2, rfl⟩ := List.mem_map.1 hs
      refine (hS' i (List.mem_range.1 hi2)).2.2.2.2 fun k hk => hw k ?_
      simp only [DataW.weights, Tryz.underlying47, List.mem_cons, List.mem_append]
      exact Or.inr (Or.inl (weightsAll_mem (List.mem_map.2 ⟨i, hi2, rfl⟩) hk))
set_option maxRecDepth 100000 in
theorem arg_u16s {H : Type} {enc : TypeId × Value → H} {W : World} {base : Nat} {v : Value} {d : DataW H} {ps : List MemPlace} (hval : Value.okWide Tryz.prog W .any base 48 v)
    (h : DataW.Trod enc Tryz.prog W 0 (fun _ => true) true 48 v d ps) : ∃ (a : Option Addr) (len cap : Nat) (C : Nat → Nat), v = .slice a len cap ∧ len ≤ maxLen ∧
      ∀ i, i < len → C i ≤ 65535 ∧ ∃ g off, a = some ⟨g, off, none⟩ ∧ g < W.heap.size ∧ W.cell? ⟨g, off + i, none⟩ = some (.int .u16 (C i)) := by
  obtain ⟨a, len, cap, row, rfl, hl, hr⟩ := arg_slice Tryz.underlying48 (by kernel_rfl : Tryz.prog.cellsOf 24 = 1) (by decide) hval h
  refine ⟨a, len, cap, fun i => match row i with | [.int .u16 c] => c.toNat | _ => 0, rfl, hl, fun i hi => ?_⟩
  obtain ⟨h1, ⟨g, off, ha, hg, hc⟩, n, y, hy⟩ := hr i hi
  have h2 := hc 0 (by decide)
  obtain ⟨c, e, _, w0⟩ := DataW.trod_int Tryz.underlying24 hy
  obtain ⟨x, rfl, hx⟩ := wf_lt (m := 65535) w0 rfl rfl
  rw [Nat.mul_one, Nat.add_zero] at h2
  refine ⟨?_, g, off, ha, hg, ?_⟩
  · simp only [e]; show (x : Int).toNat ≤ 65535; omega
  · rw [h2]
    simp only [e]
    rfl
end Go.Proofs.YtklpopmjpgdjnaaGreatDoor
