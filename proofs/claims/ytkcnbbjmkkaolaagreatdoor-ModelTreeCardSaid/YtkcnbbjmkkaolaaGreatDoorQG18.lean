/- The package's tree: All.
   The law of the trees: a script run; both trees from one step to the next. -/
import Derived.Test.YtkcnbbjmkkaolaaGreatDoorQG09
import Derived.Test.YtkcnbbjmkkaolaaGreatDoorQG00
import Derived.Test.YtkcnbbjmkkaolaaGreatDoorQG16
import Derived.Test.YtkcnbbjmkkaolaaGreatDoorQG15
import Derived.Test.YtkcnbbjmkkaolaaGreatDoorQG17
import Derived.Test.YtkcnbbjmkkaolaaGreatDoorQG06
set_option linter.unusedVariables false
set_option linter.unusedSimpArgs false
namespace Go.Proofs.YtkcnbbjmkkaolaaGreatDoor
open Go.RowKit


theorem invK64 {key : Value} {kl : Lit} (h : keyOf Tryz.prog 33 key = some kl) : ∃ x : Nat, key = .int .u64 x ∧ kl = encU64 x ∧ x < 18446744073709551616 := by
  obtain ⟨x, rfl, rfl, hw⟩ := Maps.keyOf_int_inv Tryz.underlying33 h
  have h2 : (decide ((0 : Int) ≤ x) && decide (x ≤ 18446744073709551615)) = true := hw
  simp at h2
  exact ⟨x.toNat, by rw [Int.toNat_of_nonneg h2.1], by unfold encU64; rw [Int.toNat_of_nonneg h2.1], by omega⟩
theorem grown_of_mod {w w' : World} {row : Option Nat} (h : Mod (fun k => some k = row) w w') : w.grownBy w' row := ⟨h.os, h.tape, h.output, h.size, fun k hk hn => h.block k hk hn⟩
theorem sameKey_u64 (x y : Nat) : (encU64 y).sameKey (encU64 x) = decide (y = x) := by
  by_cases h : y = x
  · subst h
    rw [decide_eq_true rfl]
    unfold encU64 Lit.sameKey
    simp
  · rw [decide_eq_false h]
    exact Maps.sameKey_ne fun e => h (encU64_inj _ _ e)
/-- what has been met so far -/
def MetN (L es : List Nd) (left : Lit → Bool) : Prop := (es.Pairwise fun p q => p.path ≠ q.path) ∧ ∀ n, n ∈ es ↔ n ∈ L ∧ left (encU64 n.path) = false
theorem MetN.step {L es : List Nd} {left : Lit → Bool} {x : Nat} {q : Nd} (h : MetN L es left) (hw : L.Pairwise fun a b => a.path < b.path) (hl : left (encU64 x) = true) (hx : look L x = some q) : MetN L (es ++ [q]) (fun z => left z && !z.sameKey (encU64 x)) := by
  obtain ⟨h1, h2⟩ := h
  obtain ⟨hqm, hqp⟩ := look_some hx
  refine ⟨List.pairwise_append.2 ⟨h1, List.pairwise_singleton _ _, fun p hp r hr => ?_⟩, fun n => ?_⟩
  · rw [List.mem_singleton.1 hr, hqp]
    intro e
    have := ((h2 p).1 hp).2
    rw [e, hl] at this
    cases this
  · rw [List.mem_append, List.mem_singleton, h2]
    show _ ↔ n ∈ L ∧ (left (encU64 n.path) && !(encU64 n.path).sameKey (encU64 x)) = false
    rw [sameKey_u64]
    by_cases hy : n.path = x
    · constructor
      · rintro (⟨a, b⟩ | rfl)
        · exact ⟨a, by rw [b]; rfl⟩
        · exact ⟨hqm, by simp [hy]⟩
      · rintro ⟨a, b⟩
        exact .inr (look_one hw hx a hy)
    · constructor
      · rintro (⟨a, b⟩ | rfl)
        · exact ⟨a, by rw [b]; rfl⟩
        · exact absurd hqp hy
      · rintro ⟨a, b⟩
        simp [hy] at b
        exact .inl ⟨a, b⟩
theorem MetN.done {L es : List Nd} {left : Lit → Bool} (h : MetN L es left) (hl : ∀ kl, left kl = false) : ∀ p, p ∈ es ↔ p ∈ L := fun p => by
  rw [h.2, hl]
  simp
set_option maxHeartbeats 4000000 in
set_option maxRecDepth 100000 in
theorem pall_any {w : World} {ρ : Nat → Role} {b mb cnt : Nat} {T : Tr} {am : Nat → Nat} {vk : Nat → Value} (h : PTreeP w ρ b mb cnt T am vk) (hwf : WF T) (hn : cnt ≤ 1000000) :
    Calls Tryz.prog 18 #[.pointer (some ⟨b, 0, none⟩)] w fun e w' => ∃ v, e = .returned v ∧ FlAt w' (w.heap.size ≤ ·) v (allT T) ∧ Mod (fun _ => False) w w' := by
  have c0 := h.c0
  obtain ⟨D, ho, hf, hz⟩ := h.map
  have hmb : mb < w.heap.size := h.map.lt
  have HF := Lib.hid hf
  have H := Lib.hid h
  have HWF := Lib.hid hwf
  have hstart : MetN T.L [] (Maps.has D) := ⟨List.Pairwise.nil, fun n => by
    constructor
    · intro h; cases h
    · rintro ⟨h1, h2⟩
      rw [(hf n.path).1] at h2
      unfold fN at h2
      rw [look_of hwf.rise h1] at h2
      cases h2⟩
  have HSt := Lib.hid hstart
  clear h hf hz hstart hwf
  go_enter Tryz.func18, Tryz.ntmps18
  go_wp2_with (first | (at_range; refine wpList_range_own _ rfl _ 79 rfl 33 75 lawM Tryz.underlying79 _ mb cnt D rfl ho ?_; intro w0 hrg0 hg0 hs0) | go_in)
  go_frame
  have m0 : Mod (fun _ => False) w w0 := ⟨hg0.os, hg0.tape, hg0.output, hg0.size, fun k hk _ => hg0.block k hk (by simp)⟩
  clear hs0 hg0 c0
  go_loopw [3, 5] (fun v _ wr => ∃ (left : Lit → Bool) (cn : Nat) (es : List Nd), wr.ranges Tryz.prog 33 heldR mb w.heap.size cnt D left cn ∧ OwnA wr (w.heap.size + 1) 15 v es.length (flatR flC (es.map fileOf)) ∧ Hid (MetN T.L es left) ∧ Hid (es.length + cn ≤ cnt) ∧ Hid (Mod (fun _ => False) w wr)) (fun _ _ wr => wr.rangeLeft mb w.heap.size)
  case atStart => exact ⟨_, _, [], hrg0, OwnA.nil _ _ _, HSt, by show _ ≤ _; simpa using ho.size_le, m0⟩
  case round =>
    obtain ⟨left, cn, es, hrg, hown, HMet, HCnt, HM⟩ := hrel
    go_wp2_with (at_next; refine wpList_next_ranges _ rfl _ rfl 33 lawM heldR (fun v : Value => v) (fun v : Value => v) (fun key kl hk => ⟨key, rfl⟩) (fun v y hv => ⟨v, rfl⟩) mb w.heap.size cnt D left cn rfl hrg ?_ ?_)
    · intro hc0 hl0
      have hdone := HMet.out.done hl0
      have hnd := HMet.out.1
      have hlen : es.length ≤ 1000000 := by have := HCnt.out; omega
      clear hrg hrg0 ho HF HSt hc0 hl0 HMet HCnt m0
      have hne : es ≠ [] := fun e => by
        obtain ⟨r, hr, _⟩ := HWF.out.root
        have := (hdone r).2 (look_some hr).1
        rw [e] at this; cases this
      obtain ⟨g, cap, hv⟩ : ∃ g cap, u3 = .slice (some ⟨g, 0, none⟩) es.length cap := by
        rcases hown.2 with ⟨_, h0⟩ | ⟨g, cap, hv, _⟩
        · exact absurd (List.eq_nil_of_length_eq_zero h0) hne
        · exact ⟨g, cap, hv⟩
      subst hv
      have hgl := (hown.lt g rfl).1
      have hml : (es.map fileOf).length = es.length := List.length_map _
      have hSo := sortF_any (es.map fileOf) wr (w.heap.size + 1) g cap (by rw [hml]; exact hown) (by rw [List.pairwise_map]; exact hnd) (by rw [hml]; exact hlen)
      rw [hml] at hSo
      have HDn := Lib.hid hdone
      clear hown hnd hdone hne hml
      go_wp2_with fail
      refine hSo.mono ?_
      rintro e w5 ⟨rfl, m, hp, hrm, hat, hmd⟩
      obtain rfl : m = allT T := riseF_ext hrm (by unfold RiseF allT; rw [List.pairwise_map]; exact HWF.out.rise) fun q => by
        rw [hp.mem_iff]
        unfold allT
        rw [List.mem_map, List.mem_map]
        constructor
        · rintro ⟨n, hn, e⟩; exact ⟨n, (HDn.out n).1 hn, e⟩
        · rintro ⟨n, hn, e⟩; exact ⟨n, (HDn.out n).2 hn, e⟩
      have HA : Hid (FlAt w5 (w.heap.size ≤ ·) (.slice (some ⟨g, 0, none⟩) es.length cap) (allT T)) := hat.imp fun k hk => by omega
      have HM5 : Hid (Mod (fun _ => False) w w5) := HM.out.trans' hmd fun k hk e => by omega
      clear hp hrm hat hmd hSo
      go_wp2
      go_ret
      exact ⟨_, rfl, HA.out, HM5.out⟩
    · intro x c kl yd yp w2 cnt2 hkey hlk hv hat hrg2 hlt hg2 hs2 hen
      obtain ⟨x, rfl, rfl, hx⟩ := invK64 hkey
      obtain ⟨n, hn', rfl⟩ : ∃ n, look T.L x = some n ∧ c = .pointer (some ⟨am x, 0, none⟩) := by
        unfold heldR at hv
        injection hv with hv
        injection hv with hv1 hv2
        have h2 := (HF.out x).2
        cases hl : look T.L x with
        | none =>
          have h3 := h2 (.held .nilFunc)
          unfold fN at h3
          rw [hl, hat, ← hv1] at h3
          have h4 := h2 (.held (.bool true))
          unfold fN at h4
          rw [hl, hat, ← hv1] at h4
          simp only [Option.map_none, DataW.held.injEq] at h3 h4
          rw [h3] at h4
          cases h4
        | some q =>
          have h3 := h2 .nil
          unfold fN at h3
          rw [hl, hat, ← hv1] at h3
          simp only [Option.map_some, DataW.held.injEq] at h3
          exact ⟨q, rfl, h3⟩
      obtain ⟨hnm, hnp⟩ := look_some hn'
      subst hnp
      have hMet2 := HMet.out.step HWF.out.rise hlk hn'
      have m2 : Mod (fun k => some k = some w.heap.size) wr w2 := Mod.of_grown hg2
      have hown2 := hown.mod m2 (fun k hk e => by injection e; omega)
      have HM2 : Hid (Mod (fun _ => False) w w2) := HM.out.trans' m2 fun k hk e => by injection e; omega
      have hw2 : w.heap.size < w2.heap.size := hrg2.lt
      have e13 : w.cell? ⟨am n.path, 13, none⟩ = some (.int .u64 n.parent) := (cell_of (H.out.node n hnm) 13).trans rfl
      have e14 : w.cell? ⟨am n.path, 14, none⟩ = some (.string n.data) := (cell_of (H.out.node n hnm) 14).trans rfl
      have hTd : ∀ U, Mod (fun _ => False) w U → Calls Tryz.prog 47 #[.pointer (some ⟨am n.path, 0, none⟩)] U fun e w' => e = .returned (.agg (statOf n).cells.toArray) ∧ Mod (fun _ => False) U w' := fun U hU => ptold_any (am n.path) n (vk n.path) U ((H.out.mod0 hU).node n hnm) (HWF.out.ok n hnm).data
      have A3 : Hid ((es.length + 1) * 136 ≤ 140737488355328) := by have := HCnt.out; show _ ≤ _; omega
      have A4 : Hid (es.length + 1 ≤ 9223372036854775807) := by have := HCnt.out; show _ ≤ _; omega
      have HC2 : Hid ((es ++ [n]).length + cnt2 ≤ cnt) := by show _ ≤ _; rw [List.length_append, List.length_singleton]; have := HCnt.out; omega
      have HMet2 := Lib.hid hMet2
      have HRg := Lib.hid hrg2
      have HLt := Lib.hid (And.intro hlt hrg.left_eq)
      have HO := Lib.hid hown2
      have HFl : Hid (fileOf n = (statOf n, n.parent, n.data)) := rfl
      clear hMet2 hrg2 hown2 m2 hs2 hg2 hat hkey hlk hv hrg hrg0 ho HF HSt HMet HCnt m0 hown hlt hn' hnm
      generalize statOf n = s at *
      generalize n.parent = np at *
      generalize n.data = nd at *
      have hO : ∀ k, some k = u3.ownBlock → w.heap.size + 1 ≤ k := fun k hk => (HO.out.lt k hk).1
      have hS2 : ∀ U, Mod (fun k => some k = u3.ownBlock) w2 U → Mod (fun _ => False) w U := fun U hU => HM2.out.trans' hU fun k hk e => by have := hO k e; omega
      have cE13 : ∀ U, Mod (fun k => some k = u3.ownBlock) w2 U → U.cell? ⟨am n.path, 13, none⟩ = some (.int .u64 np) := fun U hU => keepN (hS2 U hU) e13
      have cE14 : ∀ U, Mod (fun k => some k = u3.ownBlock) w2 U → U.cell? ⟨am n.path, 14, none⟩ = some (.string nd) := fun U hU => keepN (hS2 U hU) e14
      have hTd2 : ∀ U, Mod (fun k => some k = u3.ownBlock) w2 U → Calls Tryz.prog 47 #[.pointer (some ⟨am n.path, 0, none⟩)] U fun e w' => e = .returned (.agg s.cells.toArray) ∧ Mod (fun _ => False) U w' := fun U hU => hTd U (hS2 U hU)
      unfold St.cells at hTd2
      have HS2 := Lib.hid hS2
      clear hTd hS2 e13 e14
      go_upto_region 7 with (fail)
      refine wp_region_held_drew (S := fun w' => Hid (Mod (fun k => some k = u3.ownBlock) w2 w')) (by kernel_rfl) (Lib.hid (Mod.refl (fun k => some k = u3.ownBlock) w2).drew) (fun hHeld => ?_)
      refine hT 0 rfl (fun _ _ => by go_simp; all_goals with_reducible rfl) ?_
      try simp only [gA, gB, gC, Act.put, sA, sB, sC]
      refine hT 1 rfl (fun _ _ => by go_simp; all_goals with_reducible rfl) ?_
      try simp only [gA, gB, gC, Act.put, sA, sB, sC]
      refine hT 3 rfl (fun _ _ => by go_simp; all_goals with_reducible rfl) ?_
      try simp only [gA, gB, gC, Act.put, sA, sB, sC]
      refine hT 4 rfl (fun _ _ => by go_simp; all_goals with_reducible rfl) ?_
      try simp only [gA, gB, gC, Act.put, sA, sB, sC]
      refine hT 5 rfl (fun _ _ => by go_simp; all_goals with_reducible rfl) ?_
      try simp only [gA, gB, gC, Act.put, sA, sB, sC]
      refine hT 6 rfl (fun wH hSw => by have cH := cE13 wH hSw.out; clear hSw; go_simp; all_goals with_reducible rfl) ?_
      try simp only [gA, gB, gC, Act.put, sA, sB, sC]
      refine hT 7 rfl (fun _ _ => by go_simp; all_goals with_reducible rfl) ?_
      try simp only [gA, gB, gC, Act.put, sA, sB, sC]
      refine hT 8 rfl (fun _ _ => by go_simp; all_goals with_reducible rfl) ?_
      try simp only [gA, gB, gC, Act.put, sA, sB, sC]
      refine hT 9 rfl (fun _ _ => by go_simp; all_goals with_reducible rfl) ?_
      try simp only [gA, gB, gC, Act.put, sA, sB, sC]
      refine hT 10 rfl (fun wH hSw => by have cH := cE14 wH hSw.out; clear hSw; go_simp; all_goals with_reducible rfl) ?_
      try simp only [gA, gB, gC, Act.put, sA, sB, sC]
      refine hR1 2 rfl fun K hK => ?_
      go_simp
      refine (hTd2 _ hHeld.out).mono ?_
      rintro e w4 ⟨rfl, m4⟩
      have m24 : Mod (fun _ => False) w2 w4 := ((Mod.refl (fun _ => False) w2).drew).trans m4
      have m24b : Mod (fun k => some k = u3.ownBlock) w2 w4 := m24.mono fun _ _ x => x.elim
      refine hK.out _ _ (Lib.hid (m24b)) ?_; clear hK K hHeld; intro hHeld
      try simp only [gA, gB, gC, Act.put, sA, sB, sC]
      refine hT 11 rfl (fun _ _ => by go_simp; all_goals with_reducible rfl) ?_
      try simp only [gA, gB, gC, Act.put, sA, sB, sC]
      refine hR1 12 rfl fun K hK => ?_
      go_simp
      have mA0 : Mod (fun _ => False) w2 (w4.alloc (.cells (flC (s, np, nd)).toArray 50)) := m24.alloc _
      have HO2 : Hid (OwnA (w4.alloc (.cells (flC (s, np, nd)).toArray 50)) (w.heap.size + 1) 15 u3 es.length (flatR flC (es.map fileOf))) := HO.out.mod mA0 fun _ _ x => x
      have A2 := Lib.hid (src_fl1 (s, np, nd) w4)
      have A5 : Hid (w.heap.size + 1 ≤ (w4.alloc (.cells (flC (s, np, nd)).toArray 50)).heap.size) := Nat.le_trans hw2 mA0.size
      have hlit : (.cells (flC (s, np, nd)).toArray 50 : Obj) = .cells #[.int .u16 s.ty, .int .u32 s.dev, .int .u8 s.qt, .int .u32 s.qv, .int .u64 s.qp, .int .u32 s.mo, .int .u32 s.at_, .int .u32 s.mt, .int .u64 s.len, .string s.n, .string s.u, .string s.g, .string s.m, .int .u64 np, .string nd] 50 := rfl
      rw [hlit] at mA0 HO2 A2 A5
      generalize hW5 : w4.alloc (.cells #[.int .u16 s.ty, .int .u32 s.dev, .int .u8 s.qt, .int .u32 s.qv, .int .u64 s.qp, .int .u32 s.mo, .int .u32 s.at_, .int .u32 s.mt, .int .u64 s.len, .string s.n, .string s.u, .string s.g, .string s.m, .int .u64 np, .string nd] 50) = W5 at mA0 HO2 A2 A5 ⊢
      clear hlit hW5
      have MA0 := Lib.hid mA0
      have mA : Mod (fun k => some k = u3.ownBlock) w2 W5 := mA0.mono fun _ _ x => x.elim
      refine hK.out _ _ (Lib.hid (mA)) ?_; clear hK K hHeld; intro hHeld
      try simp only [gA, gB, gC, Act.put, sA, sB, sC]
      refine hR1 13 rfl fun K hK => ?_
      refine Eq.mpr (if_pos ?hwant) ?_
      case hwant => rfl
      refine op_append (.tmp 17) (.tmp 29) _ _ rfl (w.heap.size + 1) 50 (.agg #[.int .u16 0, .int .u32 0, .int .u8 0, .int .u32 0, .int .u64 0, .int .u32 0, .int .u32 0, .int .u32 0, .int .u64 0, .string { data := #[] }, .string { data := #[] }, .string { data := #[] }, .string { data := #[] }, .int .u64 0, .string { data := #[] }]) 15 136 Tryz.underlying46 info_fl rfl (by decide) u3 _ _ rfl HO2.out _ _ _ rfl A2.out A3.out A4.out A5.out ?_
      intro v' w6 hown' hgrow _
      have m6 : Mod (fun k => some k = u3.ownBlock) w2 w6 := (MA0.out.mono fun _ _ x => x.elim).trans hgrow
      have hfl : flatR flC (es.map fileOf) ++ flC (s, np, nd) = flatR flC ((es ++ [n]).map fileOf) := by rw [List.map_append, flatR_append, List.map_singleton, HFl.out]; simp [flatR]
      have HO3 : Hid (OwnA w6 (w.heap.size + 1) 15 v' (es ++ [n]).length (flatR flC ((es ++ [n]).map fileOf))) := by show OwnA _ _ _ _ _ _; rw [List.length_append, ← hfl]; exact hown'
      have hrg5 := (HRg.out.kept (grown_of_mod (row := none) (MA0.out.mono fun _ _ x => x.elim)) (by simp) (by simp)).kept (grown_of_mod hgrow) (fun e => by have := (HO2.out.lt mb e).1; omega) (fun e => by have := (HO2.out.lt _ e).1; omega)
      have HRg5 := Lib.hid hrg5
      clear hown' hgrow hfl hrg5
      refine hK.out _ _ (Lib.hid (m6)) ?_; clear hK K hHeld; intro hHeld
      try simp only [gA, gB, gC, Act.put, sA, sB, sC]
      refine hT 14 rfl (fun _ _ => by go_simp; all_goals with_reducible rfl) ?_
      try simp only [gA, gB, gC, Act.put, sA, sB, sC]
      refine wpAnyH_done (by kernel_rfl) ?_ _
      go_wp2
      go_roundw
      case rel => exact ⟨_, cnt2, es ++ [n], HRg5.out, HO3.out, HMet2, HC2, HS2.out _ hHeld.out⟩
      case measure => rw [HRg5.out.left_eq, HLt.out.2]; exact HLt.out.1
end Go.Proofs.YtkcnbbjmkkaolaaGreatDoor
namespace Go.Proofs.YtkcnbbjmkkaolaaGreatDoor
open Go.RowKit

def runT (T : Tr) (l : List SpM) : Tr := l.foldl (fun T s => (stepT T s).1) T
theorem runT_take (T : Tr) (l : List SpM) (k : Nat) (h : k < l.length) : runT T (l.take (k + 1)) = (stepT (runT T (l.take k)) l[k]).1 := by
  unfold runT
  rw [List.take_succ_eq_append_getElem h, List.foldl_append]
  rfl
theorem runT_last : ∀ (l : List SpM) (T : Tr), (runT T l).last ≤ T.last + l.length
  | [], T => Nat.le_refl _
  | s :: l, T => by
    have h1 := runT_last l (stepT T s).1
    have h2 := step_last T s
    show (runT (stepT T s).1 l).last ≤ T.last + (l.length + 1)
    omega
theorem runT_wt : ∀ (l : List SpM) (T : Tr), WF T → WT T → (∀ s ∈ l, s.Ok) → (∀ s ∈ l, s.Lt) → T.last + l.length < 18446744073709551616 → WT (runT T l)
  | [], T, _, h, _, _, _ => h
  | s :: l, T, hw, h, h1, h2, h3 => by
    have h4 := step_last T s
    rw [List.length_cons] at h3
    exact runT_wt l (stepT T s).1 (step_wf hw (h1 s (List.mem_cons_self ..)) (h2 s (List.mem_cons_self ..)) (by omega)) (step_wt hw h s) (fun x hx => h1 x (List.mem_cons_of_mem _ hx)) (fun x hx => h2 x (List.mem_cons_of_mem _ hx)) (by omega)
theorem TwoT.init {w1 w4 w5 : World} {ρ : Nat → Role} {b mb : Nat} {T U : Tr} {am : Nat → Nat} {vk : Nat → Value} {F : Nat → Prop} {b' g cap : Nat} {vks : Nat → Value} {cnt : Nat} (hp : PTreeP w1 ρ b mb cnt T am vk) (m : Mod (fun _ => False) w1 w4) (hr : RTreeP w5 F b' U g cap vks) (m5 : Mod (fun _ => False) w4 w5) (hF : ∀ k, F k → w4.heap.size ≤ k) (wfT : WF T) (wfU : WF U) : TwoT w5 ρ F b b' cnt T U :=
  ⟨⟨mb, am, vk, hp.mod0 (m.trans m5)⟩, ⟨g, cap, vks, hr⟩, fun k hk hf => by
    have h1 := hp.lt k hk
    have h2 := hF k hf
    have := m.size
    omega, wfT, wfU⟩
/-- both trees, since w0, above W -/
def Sc (W w0 : World) (ρ0 : Nat → Role) (G0 : Nat → Prop) (w : World) (b b' cnt : Nat) (T U : Tr) : Prop :=
  ∃ ρ G, TwoT w ρ G b b' cnt T U ∧ Bse W w ρ G ∧ TwM w0 w ρ0 ρ G0 G
section
variable {W w0 w : World} {ρ0 : Nat → Role} {G0 : Nat → Prop} {b b' cnt : Nat} {T U : Tr}
theorem Sc.m (h : Sc W w0 ρ0 G0 w b b' cnt T U) : Mod (fun _ => False) W w := by
  obtain ⟨ρ, G, _, h, _⟩ := h
  exact h.m
theorem Sc.do0 (h : Sc W w0 ρ0 G0 w b b' cnt T U) {w1 : World} (m : Mod (fun _ => False) w w1) : Sc W w0 ρ0 G0 w1 b b' cnt T U := by
  obtain ⟨ρ, G, h1, h2, h3⟩ := h
  obtain ⟨h4, h5⟩ := h1.do0 m
  exact ⟨ρ, G, h4, h2.step h5, h3.trans h5⟩
def ScP (W w0 : World) (ρ0 : Nat → Role) (G0 : Nat → Prop) (b b' cnt : Nat) (T U : Tr) (s : SpM) (e : Ending) (w' : World) : Prop :=
  ∃ v, e = .returned (.tuple #[.int .i64 (stepT T s).2, .bool v]) ∧ (T = U → v = true) ∧ Sc W w0 ρ0 G0 w' b b' (cnt + 1) (stepT T s).1 (stepT U s).1
theorem sc_step (h : Sc W w0 ρ0 G0 w b b' cnt T U) (s : SpM) (hs : s.Ok) (hl : s.Lt) (hc : cnt < 1000000) (hlT : T.last + 1 < 18446744073709551616) (hlU : U.last + 1 < 18446744073709551616) :
    Calls Tryz.prog 16 #[.pointer (some ⟨b, 0, none⟩), .pointer (some ⟨b', 0, none⟩), .agg s.cells.toArray] w fun e w' => ScP W w0 ρ0 G0 b b' cnt T U s e w' := by
  obtain ⟨ρ, G, h1, h2, h3⟩ := h
  refine (step_any h1 s hs hl h2 hc hlT hlU).mono fun e w' x => ?_
  obtain ⟨v, ρ', G', x1, x2, x3, x4⟩ := x
  exact ⟨v, x1, x2, ρ', G', x3, h2.step x4, h3.trans x4⟩
/-- what the package's tree has, what the document's has -/
theorem sc_all (h : Sc W w0 ρ0 G0 w b b' cnt T U) (hc : cnt ≤ 1000000) :
    Calls Tryz.prog 18 #[.pointer (some ⟨b, 0, none⟩)] w fun e w' => ∃ v, e = .returned v ∧ FlAt w' (w.heap.size ≤ ·) v (allT T) ∧ Mod (fun _ => False) w w' := by
  obtain ⟨ρ, G, h1, _, _⟩ := h
  obtain ⟨mb, am, vk, hp⟩ := h1.p
  exact pall_any hp h1.wfT hc
theorem sc_rall (h : Sc W w0 ρ0 G0 w b b' cnt T U) :
    Calls Tryz.prog 19 #[.pointer (some ⟨b', 0, none⟩)] w fun e w' => ∃ v, e = .returned v ∧ FlAt w' (w.heap.size ≤ ·) v (allT U) ∧ Mod (fun _ => False) w w' := by
  obtain ⟨ρ, G, h1, _, _⟩ := h
  obtain ⟨g, cap, vks, hr⟩ := h1.r
  exact rAll_any b' g cap U vks w hr.rv h1.wfU
theorem Sc.wfT (h : Sc W w0 ρ0 G0 w b b' cnt T U) : WF T := by
  obtain ⟨ρ, G, h1, _, _⟩ := h
  exact h1.wfT
end
theorem allT_len {T : Tr} (h : WF T) : (allT T).length ≤ 140737488355328 := by
  unfold allT; rw [List.length_map]; have := h.len; omega
end Go.Proofs.YtkcnbbjmkkaolaaGreatDoor
