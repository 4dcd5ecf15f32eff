/- The package's tree: a copied node; slices.Clone.
   The package's tree: Copy.
   The law ModelKeeps, walked. -/
import Derived.Test.YtkcnbbjmkkaolaaGreatDoorQG18
import Derived.Test.YtkcnbbjmkkaolaaGreatDoorQG17
import Derived.Test.YtkcnbbjmkkaolaaGreatDoorQG14
import Derived.Test.YtkcnbbjmkkaolaaGreatDoorQG00
set_option linter.unusedVariables false
set_option linter.unusedSimpArgs false
namespace Go.Proofs.YtkcnbbjmkkaolaaGreatDoor
open Go.RowKit Go.Shelf

theorem clone_any {w : World} {v : Value} {l : List Nat} (h : OwnA w 0 1 v l.length (kidsV l)) (hl : l.length ≤ 1000) :
    Calls Tryz.prog 67 #[v] w fun e w' => ∃ v', e = .returned v' ∧ OwnA w' w.heap.size 1 v' l.length (kidsV l) ∧ Mod (fun _ => False) w w' := by
  rcases h.2 with ⟨rfl, h0⟩ | ⟨g, cap, rfl, _, hg, hcap, _, _, hc⟩
  · refine (Tryz.slices_Clone_nil 0 0 w).mono ?_
    rintro e w' ⟨rfl, rfl⟩
    have : l = [] := List.eq_nil_of_length_eq_zero h0
    subst this
    exact ⟨_, rfl, OwnA.nil _ _ _, Mod.refl _ _⟩
  · obtain ⟨i0, hi, hz0, hz1, hz2⟩ := info_parts info_u64
    have hone : ∀ u ∈ kidsV l, u.oneCell' = true := by
      intro u hu
      unfold kidsV at hu
      obtain ⟨k, _, rfl⟩ := List.mem_map.1 hu
      rfl
    refine (Tryz.slices_Clone i0 (.int .u64 0) 1 8 hi hz0 hz1 hz2 rfl (by decide) (fun w => by kernel_rfl) g 0 l.length cap (kidsV l) w (by rw [Nat.mul_one]; exact List.length_map _) (by unfold maxLen; omega) (by omega) (fun j u hu => by rw [Nat.zero_add]; exact hc j u hu) hone).mono ?_
    rintro e w' ⟨v', rfl, hown, _, hb⟩
    exact ⟨v', rfl, OwnA.of_owns hown, Mod.of_below hb⟩
section
variable {w w' : World} {ρ : Nat → Role} {b mb cnt : Nat} {T : Tr} {am : Nat → Nat} {vk : Nat → Value}
/-- a file behind all others, its kids in a row of its own -/
theorem PTreeP.push2 (h : PTreeP w ρ b mb cnt T am vk) (hc : cnt < 1000000) {nd : Nd} {q a : Nat} {v : Value} (hq : nd.path = q) (hq64 : q < 18446744073709551616) (hnone : look T.L q = none) {w2 : World} (hm : Mod (fun _ => False) w w2) (ha : w.heap.size ≤ a) (hn : w2.heap[a]? = some (pnO nd v))
    (hk : OwnA w2 0 1 v nd.kids.length (kidsV nd.kids)) (hv : ∀ k, some k = v.ownBlock → w.heap.size ≤ k ∧ k ≠ a) :
    ∃ w3, (Instr.mapUpdate 79 (.map (some mb)) (.int .u64 q) (.pointer (some ⟨a, 0, none⟩))).run Tryz.prog w2 = .ok () w3 ∧
      PTreeP w3 (setR (setR ρ (some a) (.node q)) v.ownBlock (.row q)) b mb (cnt + 1) { T with L := T.L ++ [nd] } (setA am q a) (setW vk q v) ∧ Mod (· = mb) w2 w3 := by
  have h2 := h.mod0 hm
  obtain ⟨w3, hr, hM, hm3⟩ := h2.map.store encU64_inj lawM Tryz.underlying79 (by unfold maxLen; omega) (v := .pointer (some ⟨a, 0, none⟩)) (key_u64 Tryz.underlying33 hq64)
  have hR : ∀ k, k < w.heap.size → setR (setR ρ (some a) (.node q)) v.ownBlock (.row q) k = ρ k := fun k hk' => by
    unfold setR
    rw [if_neg (fun e => by have := (hv k e).1; omega), if_neg (fun e => by injection e with e; omega)]
  have hsz := hm.size
  have hal : a < w2.heap.size := lt_of hn
  have hmb : mb < w.heap.size := h.map.lt
  have hne : ∀ k, k < w.heap.size → ρ k ≠ .map → k ≠ mb := fun k _ hk' e => hk' (by rw [e]; exact h.rm)
  have hpath : ∀ m ∈ T.L, m.path ≠ q := fun m hm' e => by
    unfold look at hnone
    rw [List.find?_eq_none] at hnone
    exact hnone m hm' (by simpa using e)
  have hA : ∀ m ∈ T.L, setA am q a m.path = am m.path := fun m hm' => if_neg (hpath m hm')
  have hW : ∀ m ∈ T.L, setW vk q v m.path = vk m.path := fun m hm' => if_neg (hpath m hm')
  have hAq : setA am q a nd.path = a := if_pos hq
  have hWq : setW vk q v nd.path = v := if_pos hq
  have hmem : ∀ {m : Nd}, m ∈ T.L ++ [nd] → m ∈ T.L ∨ m = nd := fun {m} hm' => by
    rcases List.mem_append.1 hm' with x | x
    · exact .inl x
    · exact .inr (List.mem_singleton.1 x)
  refine ⟨w3, hr, ⟨?_, ?_, fun m hm' => ?_, fun m hm' => ?_, ?_, ?_, fun m hm' => ?_, fun m hm' k hk' => ?_, fun k hk' => ?_⟩, hm3⟩
  · exact (hm3.block b (lt_of h2.obj) (hne b (lt_of h.obj) (by rw [h.rb]; exact fun x => by cases x))).trans h2.obj
  · refine hM.congr (fun y => ?_) ?_
    · unfold fN
      show Option.map _ (look (T.L ++ [nd]) y) = _
      rw [look_app]
      by_cases e : y = q
      · subst e
        rw [hnone, if_pos rfl]
        show Option.map _ (if nd.path = y then some nd else none) = _
        rw [if_pos hq]
        show some (Value.pointer (some ⟨setA am y a y, 0, none⟩)) = _
        rw [show setA am y a y = a from if_pos rfl]
      · rw [if_neg e]
        have e2 : setA am q a y = am y := if_neg e
        rw [e2]
        cases look T.L y with
        | some m => rfl
        | none =>
          show Option.map _ (if nd.path = y then some nd else none) = _
          rw [if_neg (fun x => e (by rw [← x, hq]))]
          try rfl
    · have hs : (fN T.L am q).isSome = false := by unfold fN; rw [hnone]; rfl
      rw [if_neg (by rw [hs]; exact Bool.false_ne_true)]
      show (T.L ++ [nd]).length = _
      rw [List.length_append, List.length_singleton]
  · rcases hmem hm' with x | x
    · rw [hA m x, hW m x]
      exact (hm3.block _ (lt_of (h2.node m x)) (hne _ (lt_of (h.node m x)) (by rw [h.rn m x]; exact fun y => by cases y))).trans (h2.node m x)
    · subst x
      rw [hAq, hWq]
      exact (hm3.block _ hal (by omega)).trans hn
  · rcases hmem hm' with x | x
    · rw [hW m x]
      exact (h2.kid m x).modB hm3 fun k hk' e => by have := h.rk m x k hk'; rw [e, h.rm] at this; cases this
    · subst x
      rw [hWq]
      exact hk.modB hm3 fun k hk' e => by have := (hv k hk').1; omega
  · rw [hR b (lt_of h.obj)]; exact h.rb
  · rw [hR mb hmb]; exact h.rm
  · rcases hmem hm' with x | x
    · rw [hA m x, hR _ (lt_of (h.node m x))]; exact h.rn m x
    · subst x
      rw [hAq, hq]
      unfold setR; rw [if_neg (fun e => (hv a e).2 rfl), if_pos rfl]
  · rcases hmem hm' with x | x
    · rw [hW m x] at hk'
      rw [hR k ((h.kid m x).lt k hk').2]
      exact h.rk m x k hk'
    · subst x
      rw [hWq] at hk'
      rw [hq]
      unfold setR; rw [if_pos hk']
  · by_cases e2 : some k = v.ownBlock
    · exact Nat.lt_of_lt_of_le (hk.lt k e2).2 hm3.size
    · by_cases e : k = a
      · rw [e]; exact Nat.lt_of_lt_of_le hal hm3.size
      · unfold setR at hk'
        rw [if_neg e2, if_neg (fun x => e (by injection x))] at hk'
        exact Nat.lt_of_lt_of_le (h.lt k hk') (Nat.le_trans hsz hm3.size)
/-- the same files in another order -/
theorem PTreeP.perm (h : PTreeP w ρ b mb cnt T am vk) {L : List Nd} (hw : L.Pairwise fun a b => a.path < b.path) (hd : T.L.Pairwise fun a b => a.path ≠ b.path) (hm : ∀ n, n ∈ T.L ↔ n ∈ L) : PTreeP w ρ b mb cnt { T with L := L } am vk := by
  have hlk : ∀ q, look L q = look T.L q := fun q => by
    cases hx : look T.L q with
    | none =>
      unfold look at hx ⊢
      rw [List.find?_eq_none] at hx ⊢
      exact fun n hn => hx n ((hm n).2 hn)
    | some n =>
      obtain ⟨h1, h2⟩ := look_some hx
      rw [← h2]
      exact look_of hw ((hm n).1 h1)
  have hln : L.length = T.L.length := by
    have h1 : L.Nodup := hw.imp fun {a b} h e => by rw [e] at h; omega
    have h2 : T.L.Nodup := hd.imp fun {a b} h e => h (by rw [e])
    exact ((List.perm_ext_iff_of_nodup h1 h2).2 fun n => (hm n).symm).length_eq
  refine ⟨h.obj, h.map.congr (fun q => by unfold fN; show Option.map _ (look L q) = _; rw [hlk]) hln, fun n hn => h.node n ((hm n).2 hn), fun n hn => h.kid n ((hm n).2 hn), h.rb, h.rm, fun n hn => h.rn n ((hm n).2 hn), fun n hn => h.rk n ((hm n).2 hn), h.lt⟩
end
end Go.Proofs.YtkcnbbjmkkaolaaGreatDoor
namespace Go.Proofs.YtkcnbbjmkkaolaaGreatDoor
open Go.RowKit

theorem pn_one (n : Nd) {vk : Value} (hv : vk.oneCell' = true) : ∀ u ∈ pnC (n, vk), u.oneCell' = true := by
  intro u hu
  simp only [pnC, List.mem_cons, List.not_mem_nil, or_false] at hu
  rcases hu with rfl | rfl | rfl | rfl | rfl | rfl | rfl | rfl | rfl | rfl | rfl | rfl | rfl | rfl | rfl | rfl
  all_goals first | rfl | exact hv
theorem own_oneCell {w : World} {base size n : Nat} {v : Value} {xs : List Value} (h : OwnA w base size v n xs) : v.oneCell' = true := by
  rcases h.2 with ⟨rfl, _⟩ | ⟨g, cap, rfl, _⟩ <;> rfl
/-- what Copy hands back -/
def PCopy (cnt : Nat) (T : Tr) (w : World) (e : Ending) (w' : World) : Prop := ∃ b' ρ' mb' cnt' am' vk', e = .returned (.pointer (some ⟨b', 0, none⟩)) ∧ PTreeP w' ρ' b' mb' cnt' T am' vk' ∧ cnt' ≤ cnt ∧ Mod (fun _ => False) w w' ∧ ∀ k, ρ' k ≠ .none → w.heap.size ≤ k
set_option maxHeartbeats 4000000 in
set_option maxRecDepth 100000 in
theorem pcopy_any {w : World} {ρ : Nat → Role} {b mb cnt : Nat} {T : Tr} {am : Nat → Nat} {vk : Nat → Value} (h : PTreeP w ρ b mb cnt T am vk) (hwf : WF T) (hn : cnt ≤ 100000) :
    Calls Tryz.prog 24 #[.pointer (some ⟨b, 0, none⟩)] w (PCopy cnt T w) := by
  have hmm := @run_makeMap Tryz.prog
  obtain ⟨W0, hW0⟩ : ∃ W0, (w.alloc (.map #[] 0)).alloc (.cells #[.map (some w.heap.size), .int .u64 T.last] 81) = W0 := ⟨_, rfl⟩
  have hsz : W0.heap.size = w.heap.size + 2 := by subst hW0; simp
  have M0 : Mod (fun _ => False) w W0 := by subst hW0; exact ((Mod.refl _ w).alloc _).alloc _
  have hobj : W0.heap[w.heap.size + 1]? = some (.cells #[.map (some w.heap.size), .int .u64 T.last] 81 (0, 0)) := by subst hW0; exact new_at' _ _ _ (by simp)
  have hP0 : PTreeP W0 (newR (w.heap.size + 1) w.heap.size (w.heap.size + 1)) (w.heap.size + 1) w.heap.size 0 ⟨[], T.last⟩ am vk := by
    refine ⟨hobj, ?_, (fun n hn => by cases hn), (fun n hn => by cases hn), ?_, ?_, (fun n hn => by cases hn), (fun n hn => by cases hn), fun k hk => ?_⟩
    · have h1 : MapS Tryz.prog 33 encU64 W0 w.heap.size 0 (fun _ => none) 0 := by subst hW0; exact (MapS.made w _ _ _).mod ((Mod.refl (fun _ => False) _).alloc _) (fun x => x)
      exact h1.congr (fun q => rfl) rfl
    · unfold newR; rw [if_pos rfl]
    · unfold newR; rw [if_neg (by omega), if_pos rfl]
    · rcases newR_some hk with e | e | e <;> omega
  have H0 := h.mod0 M0
  have c0 : W0.cell? ⟨b, 0, none⟩ = some (.map (some mb)) := H0.c0
  have c1 : (w.alloc (.map #[] 0)).cell? ⟨b, 1, none⟩ = some (.int .u64 T.last) := (h.mod0 ((Mod.refl (fun _ => False) w).alloc _)).c1
  obtain ⟨D, ho, hf, hz⟩ := H0.map
  have hmb : mb < w.heap.size := h.map.lt
  have HF := Lib.hid hf
  have H := Lib.hid h
  have HWF := Lib.hid hwf
  have hstart : MetN T.L [] (Maps.has D) := ⟨List.Pairwise.nil, fun n => by
    constructor
    · intro h; cases h
    · rintro ⟨h1, h2⟩
      rw [(hf n.path).1] at h2
      unfold fN at h2
      rw [look_of hwf.rise h1] at h2
      cases h2⟩
  have HSt := Lib.hid hstart
  have HP0 := Lib.hid hP0
  have HM0 := Lib.hid M0
  have HSZ := Lib.hid hsz
  clear hsz
  clear h hf hz hstart hwf hobj hP0 H0 M0
  go_enter Tryz.func24, Tryz.ntmps24
  go_wp2_with (first | (at_range; refine wpList_range_own _ rfl _ 79 rfl 33 75 lawM Tryz.underlying79 _ mb cnt D rfl ho ?_; intro w0 hrg0 hg0 hs0) | go_in)
  go_frame
  have m0 : Mod (fun _ => False) W0 w0 := ⟨hg0.os, hg0.tape, hg0.output, hg0.size, fun k hk _ => hg0.block k hk (by simp)⟩
  clear hs0 hg0 c0 c1 hW0
  go_loopw [4, 5, 6] (fun _ _ _ wr => ∃ (left : Lit → Bool) (cn : Nat) (es : List Nd) (ρ' : Nat → Role) (am' : Nat → Nat) (vk' : Nat → Value), wr.ranges Tryz.prog 33 heldR mb W0.heap.size cnt D left cn ∧ Hid (PTreeP wr ρ' (w.heap.size + 1) w.heap.size es.length ⟨es, T.last⟩ am' vk') ∧ Hid (MetN T.L es left) ∧ Hid (es.length + cn ≤ cnt) ∧ Hid (Mod (fun _ => False) w wr) ∧ Hid (∀ k, ρ' k ≠ .none → w.heap.size ≤ k ∧ k ≠ W0.heap.size)) (fun _ _ _ wr => wr.rangeLeft mb W0.heap.size)
  case atStart =>
    refine ⟨_, _, [], _, am, vk, hrg0, HP0.out.mod0 m0, HSt, by show _ ≤ _; simpa using ho.size_le, HM0.out.trans m0, fun k hk => ?_⟩
    have := HSZ.out; rcases newR_some hk with e | e | e <;> omega
  case round =>
    obtain ⟨left, cn, es, ρ', am', vk', hrg, HP, HMet, HCnt, HM, HR⟩ := hrel
    go_wp2_with (at_next; refine wpList_next_ranges _ rfl _ rfl 33 lawM heldR (fun v : Value => v) (fun v : Value => v) (fun key kl hk => ⟨key, rfl⟩) (fun v y hv => ⟨v, rfl⟩) mb W0.heap.size cnt D left cn rfl hrg ?_ ?_)
    · intro hc0 hl0
      have hdone := HMet.out.done hl0
      have hnd := HMet.out.1
      have hPP := HP.out.perm HWF.out.rise hnd hdone
      have HPP := Lib.hid hPP
      clear hrg hrg0 ho HF HSt hc0 hl0 HMet m0 hdone hnd hPP
      go_wp2
      go_ret
      exact ⟨w.heap.size + 1, ρ', w.heap.size, es.length, am', vk', rfl, HPP.out, by have := HCnt.out; omega, HM.out, fun k hk => (HR.out k hk).1⟩
    · intro x c kl yd yp w2 cnt2 hkey hlk hv hat hrg2 hlt hg2 hs2 hen
      obtain ⟨x, rfl, rfl, hx⟩ := invK64 hkey
      obtain ⟨n, hn', rfl⟩ : ∃ n, look T.L x = some n ∧ c = .pointer (some ⟨am x, 0, none⟩) := by
        unfold heldR at hv
        injection hv with hv
        injection hv with hv1 hv2
        have h2 := (HF.out x).2
        cases hl : look T.L x with
        | none =>
          have h3 := h2 (.held .nilFunc)
          unfold fN at h3
          rw [hl, hat, ← hv1] at h3
          have h4 := h2 (.held (.bool true))
          unfold fN at h4
          rw [hl, hat, ← hv1] at h4
          simp only [Option.map_none, DataW.held.injEq] at h3 h4
          rw [h3] at h4
          cases h4
        | some q =>
          have h3 := h2 .nil
          unfold fN at h3
          rw [hl, hat, ← hv1] at h3
          simp only [Option.map_some, DataW.held.injEq] at h3
          exact ⟨q, rfl, h3⟩
      obtain ⟨hnm, hnp⟩ := look_some hn'
      subst hnp
      have hMet2 := HMet.out.step HWF.out.rise hlk hn'
      have hnone : look es n.path = none := by
        cases hx : look es n.path with
        | none => rfl
        | some m =>
          obtain ⟨h1, h2⟩ := look_some hx
          have h3 := ((HMet.out.2 m).1 h1).2
          rw [h2, hlk] at h3
          cases h3
      have m2 : Mod (fun k => some k = some W0.heap.size) wr w2 := Mod.of_grown hg2
      have HM2 : Hid (Mod (fun _ => False) w w2) := HM.out.trans' m2 fun k hk e => by have := HSZ.out; injection e; omega
      have HP2 : Hid (PTreeP w2 ρ' (w.heap.size + 1) w.heap.size es.length ⟨es, T.last⟩ am' vk') := HP.out.mod m2 fun k e => by
        injection e with e
        cases hr : ρ' k with
        | none => rfl
        | _ => exfalso; have := (HR.out k (by rw [hr]; exact fun x => by cases x)).2; omega
      have hN2 := (HM2.out.block _ (lt_of (H.out.node n hnm)) (fun x => x)).trans (H.out.node n hnm)
      have hkid2 := (H.out.kid n hnm).mod HM2.out (fun _ _ x => x)
      have hvk1 := own_oneCell hkid2
      have hw2 : W0.heap.size < w2.heap.size := hrg2.lt
      have hkl := (HWF.out.ok n hnm).kl
      have hrow : w2.rangeAt (am n.path) 0 (pnC (n, vk n.path)) := fun j u hu => by rw [Nat.zero_add, cell_of hN2, List.getElem?_toArray]; exact hu
      have hln := pn_len (n, vk n.path)
      have hone := pn_one n hvk1
      have HC2 : Hid ((es ++ [n]).length + cnt2 ≤ cnt) := by show _ ≤ _; rw [List.length_append, List.length_singleton]; have := HCnt.out; omega
      have HMet2 := Lib.hid hMet2
      have HRg := Lib.hid hrg2
      have HLt := Lib.hid (And.intro hlt hrg.left_eq)
      have HN2 := Lib.hid hN2
      have HK2 := Lib.hid hkid2
      have HNo := Lib.hid hnone
      clear hMet2 hrg2 m2 hs2 hg2 hat hkey hlk hv hrg hrg0 ho HF HSt HMet m0 hlt hn' hN2 hkid2 hnone
      go_upto_region 8 with (first | refine wpList_load_mid rfl 78 (.tmp 27) rfl (am n.path) 0 rfl (pnC (n, vk n.path)) _ hrow Tryz.underlying78 rfl (by kernel_rfl) ?_ | (refine wpl_store_row rfl 78 (.tmp 6) (.tmp 28) rfl rfl w2.heap.size (pnC (n, vk n.path)) rfl rfl 78 _ (new_at _ _) rfl hone (by kernel_rfl) ?_; intro V1 hd1 md1))
      have hd1 : V1.heap[w2.heap.size]? = some (pnO n (vk n.path)) := hd1
      have mV1 : Mod (fun _ => False) w2 V1 := ((Mod.refl (fun _ => False) w2).alloc _).trans' md1 fun k hk e => by omega
      have c15 : V1.cell? ⟨am n.path, 15, none⟩ = some (vk n.path) := (cell_of ((mV1.block _ (lt_of HN2.out) (fun x => x)).trans HN2.out) 15).trans rfl
      have hCl := clone_any (HK2.out.mod mV1 (fun _ _ x => x)) (by omega)
      obtain ⟨va, hva⟩ : ∃ va, vk n.path = va := ⟨_, rfl⟩
      have HD1 := Lib.hid hd1
      have MV1 := Lib.hid mV1
      clear hd1 md1 mV1 hrow hone
      rcases HK2.out.2 with ⟨hv0, h00⟩ | ⟨kg, kc, hv0, h01⟩
      · rw [hv0] at c15 hCl
        clear hv0 h00
        go_wp2_with fail
        refine hCl.mono ?_
        rintro e V2 ⟨v', rfl, hown, m2⟩
        have hN2 : V2.heap[w2.heap.size]? = some (pnO n (vk n.path)) := (m2.block _ (lt_of HD1.out) (fun x => x)).trans HD1.out
        have ck : V2.cell? ⟨w2.heap.size, 15, none⟩ = some (vk n.path) := (cell_of hN2 15).trans rfl
        have fk : V2.frozen? ⟨w2.heap.size, 15, none⟩ = false := free_of hN2 15
        obtain ⟨V3, hV3⟩ : ∃ V3, V2.setCell ⟨w2.heap.size, 15, none⟩ v' = V3 := ⟨_, rfl⟩
        have hN3 : V3.heap[w2.heap.size]? = some (pnO n v') := by rw [← hV3]; exact heap_set hN2 15 v'
        have m3 : Mod (· = w2.heap.size) V2 V3 := by rw [← hV3]; exact Mod.set1 V2 _ 15 _
        have hV1s : w2.heap.size < V1.heap.size := lt_of HD1.out
        have hown3 : OwnA V3 0 1 v' n.kids.length (kidsV n.kids) := (hown.modB m3 fun k hk e => by have := (hown.lt k hk).1; omega).mono (Nat.zero_le _)
        have m23 : Mod (fun _ => False) w2 V3 := (MV1.out.trans m2).trans' m3 fun k hk e => by omega
        obtain ⟨w3, hrun, hP3, m4⟩ := HP2.out.push2 (by have := HCnt.out; show es.length < _; omega) rfl hx HNo.out m23 (Nat.le_refl _) hN3 hown3 (fun k hk => by have := (hown.lt k hk).1; omega)
        have HP3 := Lib.hid hP3
        have hrg5 := (HRg.out.kept (grown_of_mod (row := none) (m23.mono fun _ _ x => x.elim)) (by simp) (by simp)).kept (grown_of_mod (row := some w.heap.size) (m4.mono fun k _ e => by rw [e])) (fun e => by injection e; omega) (fun e => by have := HSZ.out; injection e; omega)
        have HRg5 := Lib.hid hrg5
        have HM5 : Hid (Mod (fun _ => False) w w3) := (HM2.out.trans m23).trans' m4 fun k hk e => by omega
        have HW2 := HM2.out.size
        have HR5 : Hid (∀ k, setR (setR ρ' (some w2.heap.size) (.node n.path)) v'.ownBlock (.row n.path) k ≠ .none → w.heap.size ≤ k ∧ k ≠ W0.heap.size) := fun k hk => by
          unfold setR at hk
          by_cases e1 : some k = v'.ownBlock
          · have := (hown.lt k e1).1; omega
          · rw [if_neg e1] at hk
            by_cases e2 : some k = some w2.heap.size
            · injection e2 with e2; omega
            · rw [if_neg e2] at hk; exact HR.out k hk
        have d0 : V3.cell? ⟨w.heap.size + 1, 0, none⟩ = some (.map (some w.heap.size)) := (HP2.out.mod0 m23).c0
        have HOw := Lib.hid hown
        clear hCl hN2 m2 hN3 m3 hown3 m23 hP3 m4 hrg5 c15
        rcases HOw.out.2 with ⟨hv', h02⟩ | ⟨g', cap', hv', h02⟩
        · rw [hv'] at hV3
          clear h02
          go_wp2
          go_roundw
          case rel => exact ⟨_, cnt2, es ++ [n], _, _, _, HRg5.out, by show PTreeP _ _ _ _ (es ++ [n]).length _ _ _; rw [List.length_append, List.length_singleton]; exact HP3.out, HMet2, HC2, HM5.out, HR5.out⟩
          case measure => rw [HRg5.out.left_eq, HLt.out.2]; exact HLt.out.1
        · rw [hv'] at hV3
          clear h02
          go_wp2
          go_roundw
          case rel => exact ⟨_, cnt2, es ++ [n], _, _, _, HRg5.out, by show PTreeP _ _ _ _ (es ++ [n]).length _ _ _; rw [List.length_append, List.length_singleton]; exact HP3.out, HMet2, HC2, HM5.out, HR5.out⟩
          case measure => rw [HRg5.out.left_eq, HLt.out.2]; exact HLt.out.1
      · rw [hv0] at c15 hCl
        clear hv0 h01
        go_wp2_with fail
        refine hCl.mono ?_
        rintro e V2 ⟨v', rfl, hown, m2⟩
        have hN2 : V2.heap[w2.heap.size]? = some (pnO n (vk n.path)) := (m2.block _ (lt_of HD1.out) (fun x => x)).trans HD1.out
        have ck : V2.cell? ⟨w2.heap.size, 15, none⟩ = some (vk n.path) := (cell_of hN2 15).trans rfl
        have fk : V2.frozen? ⟨w2.heap.size, 15, none⟩ = false := free_of hN2 15
        obtain ⟨V3, hV3⟩ : ∃ V3, V2.setCell ⟨w2.heap.size, 15, none⟩ v' = V3 := ⟨_, rfl⟩
        have hN3 : V3.heap[w2.heap.size]? = some (pnO n v') := by rw [← hV3]; exact heap_set hN2 15 v'
        have m3 : Mod (· = w2.heap.size) V2 V3 := by rw [← hV3]; exact Mod.set1 V2 _ 15 _
        have hV1s : w2.heap.size < V1.heap.size := lt_of HD1.out
        have hown3 : OwnA V3 0 1 v' n.kids.length (kidsV n.kids) := (hown.modB m3 fun k hk e => by have := (hown.lt k hk).1; omega).mono (Nat.zero_le _)
        have m23 : Mod (fun _ => False) w2 V3 := (MV1.out.trans m2).trans' m3 fun k hk e => by omega
        obtain ⟨w3, hrun, hP3, m4⟩ := HP2.out.push2 (by have := HCnt.out; show es.length < _; omega) rfl hx HNo.out m23 (Nat.le_refl _) hN3 hown3 (fun k hk => by have := (hown.lt k hk).1; omega)
        have HP3 := Lib.hid hP3
        have hrg5 := (HRg.out.kept (grown_of_mod (row := none) (m23.mono fun _ _ x => x.elim)) (by simp) (by simp)).kept (grown_of_mod (row := some w.heap.size) (m4.mono fun k _ e => by rw [e])) (fun e => by injection e; omega) (fun e => by have := HSZ.out; injection e; omega)
        have HRg5 := Lib.hid hrg5
        have HM5 : Hid (Mod (fun _ => False) w w3) := (HM2.out.trans m23).trans' m4 fun k hk e => by omega
        have HW2 := HM2.out.size
        have HR5 : Hid (∀ k, setR (setR ρ' (some w2.heap.size) (.node n.path)) v'.ownBlock (.row n.path) k ≠ .none → w.heap.size ≤ k ∧ k ≠ W0.heap.size) := fun k hk => by
          unfold setR at hk
          by_cases e1 : some k = v'.ownBlock
          · have := (hown.lt k e1).1; omega
          · rw [if_neg e1] at hk
            by_cases e2 : some k = some w2.heap.size
            · injection e2 with e2; omega
            · rw [if_neg e2] at hk; exact HR.out k hk
        have d0 : V3.cell? ⟨w.heap.size + 1, 0, none⟩ = some (.map (some w.heap.size)) := (HP2.out.mod0 m23).c0
        have HOw := Lib.hid hown
        clear hCl hN2 m2 hN3 m3 hown3 m23 hP3 m4 hrg5 c15
        rcases HOw.out.2 with ⟨hv', h02⟩ | ⟨g', cap', hv', h02⟩
        · rw [hv'] at hV3
          clear h02
          go_wp2
          go_roundw
          case rel => exact ⟨_, cnt2, es ++ [n], _, _, _, HRg5.out, by show PTreeP _ _ _ _ (es ++ [n]).length _ _ _; rw [List.length_append, List.length_singleton]; exact HP3.out, HMet2, HC2, HM5.out, HR5.out⟩
          case measure => rw [HRg5.out.left_eq, HLt.out.2]; exact HLt.out.1
        · rw [hv'] at hV3
          clear h02
          go_wp2
          go_roundw
          case rel => exact ⟨_, cnt2, es ++ [n], _, _, _, HRg5.out, by show PTreeP _ _ _ _ (es ++ [n]).length _ _ _; rw [List.length_append, List.length_singleton]; exact HP3.out, HMet2, HC2, HM5.out, HR5.out⟩
          case measure => rw [HRg5.out.left_eq, HLt.out.2]; exact HLt.out.1
end Go.Proofs.YtkcnbbjmkkaolaaGreatDoor
namespace Go.Proofs.YtkcnbbjmkkaolaaGreatDoor
open Go.RowKit

theorem step_keep {T : Tr} (s : SpM) (h : (stepT T s).2 ≠ 0 ∨ s.dof = 0 ∨ s.dof = 1 ∨ s.dof = 4 ∨ s.dof = 5) : (stepT T s).1 = T := by
  unfold stepT at h ⊢
  split
  · rfl
  rename_i d0
  rw [if_neg d0] at h
  split
  · rfl
  rename_i d1
  rw [if_neg d1] at h
  split
  · rename_i d
    rw [if_pos d] at h
    exact open_err (h.elim id fun x => by omega)
  rename_i d2
  rw [if_neg d2] at h
  split
  · rename_i d
    rw [if_pos d] at h
    exact create_err (h.elim id fun x => by omega)
  rename_i d3
  rw [if_neg d3] at h
  split
  · rfl
  rename_i d4
  rw [if_neg d4] at h
  split
  · rfl
  rename_i d5
  rw [if_neg d5] at h
  split
  · rename_i d
    rw [if_pos d] at h
    exact write_err (h.elim id fun x => by omega)
  rename_i d6
  rw [if_neg d6] at h
  split
  · rename_i d
    rw [if_pos d] at h
    exact remove_err (h.elim id fun x => by omega)
  rename_i d7
  rw [if_neg d7] at h
  exact wstat_err (h.elim id fun x => by omega)
def kT0 : Tr := newT annB 0
theorem kT0_wf : WF kT0 := new_wf (by decide) (by decide)
theorem kT0_last : kT0.last = 1 := rfl
theorem bs_foldS (s : SpM) : List.foldl (fun (cs : Array Value) (x : Value × Nat) => cs.setIfInBounds x.snd x.fst) #[.int .i64 0, .int .u64 0, .string { data := #[] }, .string { data := #[] }, .int .u32 0, .int .u8 0, .int .u32 0, .int .u64 0, .int .u32 0, .string { data := #[] }, .int .u16 0, .int .u32 0, .int .u8 0, .int .u32 0, .int .u64 0, .int .u32 0, .int .u32 0, .int .u32 0, .int .u64 0, .string { data := #[] }, .string { data := #[] }, .string { data := #[] }, .string { data := #[] }] s.cells.zipIdx = s.cells.toArray := by kernel_rfl
theorem recs_one (s : SpM) (w : World) : RecsAt SpM.cells 23 (w.alloc (.cells s.cells.toArray 44)) (fun _ => True) (.slice (some ⟨w.heap.size, 0, none⟩) 1 1) [s] :=
  .inr ⟨w.heap.size, 0, 1, rfl, trivial, by rw [World.size_alloc]; omega, Nat.le_refl _, fun j t hj i u hu => by
    cases j with
    | zero =>
      have e : s = t := by simpa using hj
      subst e
      have h0 : (⟨w.heap.size, 0 + 0 * 23 + i, none⟩ : Addr) = ⟨w.heap.size, i, none⟩ := by rw [Nat.zero_mul, Nat.zero_add]
      rw [h0, cell_of (new_at w _), List.getElem?_toArray]; exact hu
    | succ j => simp at hj⟩
set_option maxHeartbeats 16000000 in
set_option maxRecDepth 100000 in
theorem keeps_walk (v : Value) (l : List SpM) (z : SpM) (W : World) (hv : RecsAt SpM.cells 23 W (fun _ => True) v l) (hok : ∀ s ∈ l, s.Ok) (hrc : ∀ s ∈ l, s.Rc) (hlen : l.length ≤ 140737488355328) (hzo : z.Ok) (hzr : z.Rc) (hTb : Tabs W) :
    Calls Tryz.prog 6 #[v, .agg z.cells.toArray] W fun e w' => e = .returned (.bool true) ∧ Mod (fun _ => False) W w' := by
  obtain ⟨W0, hW0⟩ : ∃ W0, W.alloc (.cells z.cells.toArray 44) = W0 := ⟨_, rfl⟩
  have hZ : W0.heap[W.heap.size]? = some (.cells z.cells.toArray 44 (0, 0)) := by subst hW0; exact new_at _ _
  have m0 : Mod (fun _ => False) W W0 := by subst hW0; exact (Mod.refl _ W).alloc _
  have hv0 : RecsAt SpM.cells 23 W0 (fun _ => True) v l := hv.mod m0 fun _ _ _ x => x
  have hH := heavy_any v l W0 hv0 hrc hlen
  obtain ⟨va, vc, rfl, hvc, hx⟩ := hv.form
  have HX := Lib.hid hx
  have HT := Lib.hid hTb
  have HOk := Lib.hid hok
  have HZ := Lib.hid hZ
  have M0 := Lib.hid m0
  have hzl := sp_len z
  clear hv hrc hx hTb hok hv0 hZ m0
  go_enter Tryz.func6, Tryz.ntmps6
  go_wp2_with fail
  clear hW0
  obtain ⟨B, hB⟩ : ∃ B, W.heap.size = B := ⟨_, rfl⟩
  rw [hB] at HZ
  simp only [hB]
  have HBB := Lib.hid hB
  clear hB
  refine hH.mono ?_
  rintro e w1 ⟨bh, rfl, hbh, m1⟩
  have M1 : Hid (Mod (fun _ => False) W w1) := M0.out.trans m1
  have HZ1 : Hid (w1.heap[B]? = some (.cells z.cells.toArray 44 (0, 0))) := (m1.block _ (lt_of HZ.out) (fun x => x)).trans HZ.out
  have HB := Lib.hid hbh
  clear hH m1 hbh HZ
  cases bh with
  | true => go_wp2_with fail
            refine (works_any w1 (HT.out.mod (M1).out)).mono ?_
            rintro e w9 ⟨rfl, m9⟩
            have M9 : Hid (Mod (fun _ => False) W w9) := (M1).out.trans m9
            clear m9
            go_wp2
            go_ret
            exact ⟨rfl, M9.out⟩
  | false =>
  obtain ⟨hl120, hlt⟩ := HB.out rfl
  have HLt := Lib.hid hlt
  have hrz : w1.rangeAt B 0 z.cells := fun j u hu => by rw [Nat.zero_add, cell_of HZ1.out, List.getElem?_toArray]; exact hu
  have hb2 := bs_foldS z
  have hH2 := heavy_any (.slice (some ⟨w1.heap.size, 0, none⟩) 1 1) [z] (w1.alloc (.cells z.cells.toArray 44)) (recs_one z w1) (fun s hs => by rw [List.mem_singleton] at hs; subst hs; exact hzr) (by simp)
  clear HB hlt
  go_wp2_with (refine wpList_load_guard 44 (.tmp 3) rfl (by rfl) B 0 rfl z.cells _ hrz Tryz.underlying44 rfl (by kernel_rfl) ?_)
  refine hH2.mono ?_
  rintro e w2 ⟨bh, rfl, hbh, m2⟩
  have m2' : Mod (fun _ => False) w1 w2 := ((Mod.refl (fun _ => False) w1).alloc _).trans m2
  have M2 : Hid (Mod (fun _ => False) W w2) := M1.out.trans m2'
  have HZ2 : Hid (w2.heap[B]? = some (.cells z.cells.toArray 44 (0, 0))) := (m2'.block _ (lt_of HZ1.out) (fun x => x)).trans HZ1.out
  have HB := Lib.hid hbh
  clear hH2 hb2 hrz m2 m2' hbh HZ1 M1
  cases bh with
  | true => go_wp2_with fail
            refine (works_any w2 (HT.out.mod (M2).out)).mono ?_
            rintro e w9 ⟨rfl, m9⟩
            have M9 : Hid (Mod (fun _ => False) W w9) := (M2).out.trans m9
            clear m9
            go_wp2
            go_ret
            exact ⟨rfl, M9.out⟩
  | false =>
  have hzlt := (HB.out rfl).2 z (List.mem_cons_self ..)
  clear HB
  have hN : Calls Tryz.prog 10 #[.string ⟨#[97, 110, 110]⟩, .int .u32 0] w2 fun e w' => ∃ b ρ mb am vk, e = .returned (.tuple #[.pointer (some ⟨b, 0, none⟩), .int .i64 0]) ∧ PTreeP w' ρ b mb 1 kT0 am vk ∧ Mod (fun _ => False) w2 w' ∧ ∀ k, ρ k ≠ .none → w2.heap.size ≤ k :=
    (pnew_any annB 0 w2 (by decide) (HT.out.mod M2.out)).mono fun e w' x => x.2 wk_ann
  go_wp2_with fail
  refine hN.mono ?_
  rintro e w3 ⟨b, ρ, mb, am, vk, rfl, hp3, m3, hr3⟩
  have HZ3 : Hid (w3.heap[B]? = some (.cells z.cells.toArray 44 (0, 0)) ∧ ¬ Foot ρ B) := ⟨(m3.block _ (lt_of HZ2.out) (fun x => x)).trans HZ2.out, fun x => by have := hr3 _ x; have := lt_of HZ2.out; omega⟩
  have M3 : Hid (Mod (fun _ => False) W w3) := M2.out.trans m3
  have HP3 := Lib.hid hp3
  have HR3 : Hid (∀ k, ρ k ≠ .none → W.heap.size ≤ k) := fun k hk => Nat.le_trans M2.out.size (hr3 k hk)
  have hR : Calls Tryz.prog 15 #[.string ⟨#[97, 110, 110]⟩, .int .u32 0] w3 fun e w' => ∃ b F g cap vks, e = .returned (.pointer (some ⟨b, 0, none⟩)) ∧ RTreeP w' F b kT0 g cap vks ∧ Mod (fun _ => False) w3 w' ∧ ∀ k, F k → w3.heap.size ≤ k := rNew_any annB 0 w3
  clear hN m3 hp3 hr3 HZ2
  go_wp2_with fail
  refine hR.mono ?_
  rintro e w7 ⟨b', F, g, cap, vks, rfl, hr7, m7, hf7⟩
  have hTw : TwoT w7 ρ F b b' 1 kT0 kT0 := TwoT.init HP3.out (Mod.refl _ _) hr7 m7 hf7 kT0_wf kT0_wf
  have hBs : Bse W w7 ρ F := ⟨HT.out, M3.out.trans m7, fun k hk => by
    rcases hk with x | x
    · exact HR3.out k x
    · exact Nat.le_trans M3.out.size (hf7 k x)⟩
  have HS0 : Hid (Sc W w7 ρ F w7 b b' 1 kT0 kT0) := ⟨ρ, F, hTw, hBs, TwM.refl _ _ _⟩
  have HZ7 : Hid (w7.heap[B]? = some (.cells z.cells.toArray 44 (0, 0)) ∧ ¬ Foot ρ B ∧ ¬ F B) := ⟨(m7.block _ (lt_of HZ3.out.1) (fun x => x)).trans HZ3.out.1, HZ3.out.2, fun x => by have := hf7 _ x; have := lt_of HZ3.out.1; omega⟩
  have HLa := Lib.hid kT0_last
  clear hR m7 hr7 hf7 hTw hBs M2 M3 HP3 HR3 HZ3 M0
  generalize kT0 = T0 at *
  go_wp2
  go_loopw [8] (fun i wr => ∃ (k : Nat), k ≤ l.length ∧ i = .int .i64 k ∧ Hid (Sc W w7 ρ F wr b b' (k + 1) (runT T0 (l.take k)) (runT T0 (l.take k)))) (fun i _ => l.length - (intOf i).toNat)
  case atStart => exact ⟨0, Nat.zero_le _, rfl, HS0⟩
  case round =>
    obtain ⟨k, hk, rfl, HS⟩ := hrel
    by_cases hlt : k < l.length
    · obtain ⟨g1, o1, rfl, _, hg1, hc1⟩ := HX.out k l[k] (List.getElem?_eq_getElem hlt)
      have hsk := HOk.out l[k] (List.getElem_mem hlt)
      have hsl := HLt.out l[k] (List.getElem_mem hlt)
      have HRn := Lib.hid (runT_take T0 l k hlt)
      have hls : (runT T0 (l.take k)).last + 1 < 18446744073709551616 := by
        have h1 := runT_last (l.take k) T0
        rw [List.length_take, HLa.out] at h1
        omega
      generalize l[k] = s at *
      obtain ⟨T, hTT⟩ : ∃ T, runT T0 (l.take k) = T := ⟨_, rfl⟩
      rw [hTT] at HRn HS hls
      have hSt := sc_step HS.out s hsk hsl (by omega) hls hls
      have hr1 : wr.rangeAt g1 (o1 + k * 23) s.cells := rec_rng hg1 hc1 HS.out.m
      have hsl := sp_len s
      have t2 : decide ((k : Int) < (l.length : Int)) = true := by simp; omega
      have t2' : decide (k < l.length) = true := by simp; omega
      have i1 : (0 : Int) ≤ (k : Int) := by omega
      have i2 : (k : Int) < (l.length : Int) := by omega
      have i3 : (l.length : Int) ≤ (vc : Int) := by omega
      clear hc1 hsk hTT hls HS
      go_wp2_with (refine wpList_load_mid rfl 44 (.tmp 41) rfl g1 (o1 + k * 23) rfl s.cells _ hr1 Tryz.underlying44 rfl (by kernel_rfl) ?_)
      refine hSt.mono ?_
      rintro e wn ⟨vv, rfl, hvv, hsc⟩
      have HS2 : Hid (Sc W w7 ρ F wn b b' (k + 1 + 1) (runT T0 (l.take (k + 1))) (runT T0 (l.take (k + 1)))) := by
        show Sc _ _ _ _ _ _ _ _ _ _
        rw [HRn.out]; exact hsc
      clear hSt hr1 hvv hsc HRn
      go_wp2
      go_roundw
      case rel => exact ⟨k + 1, hlt, by go_num, HS2⟩
      case measure => simp [intOf]; omega
    · obtain rfl : k = l.length := by omega
      have t2 : decide ((l.length : Int) < (l.length : Int)) = false := by simp
      have t2' : decide (l.length < l.length) = false := by simp
      rw [List.take_length] at HS
      have hls : (runT T0 l).last + 1 < 18446744073709551616 := by
        have h1 := runT_last l T0
        rw [HLa.out] at h1
        omega
      generalize runT T0 l = T at *
      obtain ⟨ρ1, G1, hT1, hB1, hM1⟩ := HS.out
      have HWF := Lib.hid hT1.wfT
      obtain ⟨mb1, am1, vk1, hp1⟩ := hT1.p
      obtain ⟨gr1, cr1, vr1, hrr1⟩ := hT1.r
      have hz1 := hM1.keep (lt_of HZ7.out.1) HZ7.out.2.1 HZ7.out.2.2
      have HZ1 : Hid (wr.heap[B]? = some (.cells z.cells.toArray 44 (0, 0))) := hz1.1.trans HZ7.out.1
      have HP := Lib.hid hp1
      have HRR := Lib.hid hrr1
      have HMW := Lib.hid hB1.m
      have hA := pall_any hp1 HWF.out (by omega)
      have HLn := Lib.hid (allT_len HWF.out)
      clear hT1 hB1 hM1 hp1 hrr1 hz1 HS HZ7 HS0
      go_wp2_with fail
      refine hA.mono ?_
      rintro e w8 ⟨v0, rfl, hv0, m8⟩
      have HV8 : Hid (FlAt w8 (fun k => k < w8.heap.size) v0 (allT T)) := by
        rcases hv0 with h | ⟨g0, off, cap0, h1, h2, h3, h4⟩
        · exact .inl h
        · exact .inr ⟨g0, off, cap0, h1, h3, h3, h4⟩
      have HP8 := Lib.hid (HP.out.mod0 m8)
      have HRR8 := Lib.hid (HRR.out.mod m8 fun _ x => x.elim)
      have HM8 : Hid (Mod (fun _ => False) W w8) := HMW.out.trans m8
      have HZ8 : Hid (w8.heap[B]? = some (.cells z.cells.toArray 44 (0, 0))) := (m8.block _ (lt_of HZ1.out) (fun x => x)).trans HZ1.out
      have hC := pcopy_any HP8.out HWF.out (by omega)
      clear hA m8 hv0 HP HRR HMW HZ1
      go_wp2_with fail
      refine hC.mono ?_
      rintro e w9 ⟨bc, ρc, mbc, cc, amc, vkc, rfl, hpc, hcc, m9, hfc⟩
      have HPC := Lib.hid hpc
      have HFC := Lib.hid hfc
      have M89 := Lib.hid m9
      have hA2 := pall_any hpc HWF.out (by omega)
      clear hC hpc hfc m9
      go_wp2_with fail
      refine hA2.mono ?_
      rintro e wa ⟨v1, rfl, hv1, ma⟩
      have M8a : Hid (Mod (fun _ => False) w8 wa) := M89.out.trans ma
      have HPCa := Lib.hid (HPC.out.mod0 ma)
      have hF := files_any v1 v0 (allT T) wa (hv1.imp fun _ _ => trivial) ((HV8.out.mod M8a.out fun _ _ _ x => x).imp fun _ _ => trivial) HLn.out
      clear hA2 hv1 ma HPC M89
      go_wp2_with fail
      refine hF.mono ?_
      rintro e wb ⟨rfl, mb'⟩
      have M8b : Hid (Mod (fun _ => False) w8 wb) := M8a.out.trans mb'
      have HPCb := Lib.hid (HPCa.out.mod0 mb')
      have HZb : Hid (wb.heap[B]? = some (.cells z.cells.toArray 44 (0, 0))) := (M8b.out.block _ (lt_of HZ8.out) (fun x => x)).trans HZ8.out
      have hCr := fun U (hU : Mod (fun _ => False) wb U) => rCopy_any b' gr1 cr1 T vr1 U ((HRR8.out.mod (M8b.out.trans hU) fun _ x => x.elim).rv) HWF.out
      have HCR := Lib.hid hCr
      clear hF mb' HPCa M8a hCr
      go_upto_region 15 with (fail)
      have hrow : ∀ U : World, U.heap[B]? = some (.cells z.cells.toArray 44 (0, 0)) → U.rangeAt B 0 z.cells := fun U hU j u hu => by rw [Nat.zero_add, cell_of hU, List.getElem?_toArray]; exact hu
      refine wp_region_held_drew (S := fun w' => Hid (w'.heap[B]? = some (.cells z.cells.toArray 44 (0, 0)))) (by kernel_rfl) (show Hid _ from HZb) (fun hHeld => ?_)
      refine hT 0 rfl (fun _ _ => by go_simp; all_goals with_reducible rfl) ?_
      try simp only [gA, gB, gC, Act.put, sA, sB, sC]
      refine hT 1 rfl (fun _ _ => by go_simp; all_goals with_reducible rfl) ?_
      try simp only [gA, gB, gC, Act.put, sA, sB, sC]
      refine hTy 3 rfl (by kernel_rfl) (fun _ _ _ h => h) (by assumption) (yieldsIf_load_mid (by rfl) 44 (.tmp 3) rfl B 0 rfl z.cells _ (fun wH hSw => hrow wH hSw.out) Tryz.underlying44 rfl (by kernel_rfl)) ?_
      try simp only [gA, gB, gC, Act.put, sA, sB, sC]
      refine hR1 2 rfl fun K hK => ?_
      go_simp
      refine (HCR.out wb.drew ((Mod.refl (fun _ => False) wb).drew)).mono ?_
      rintro e wc ⟨bc', Fc, gc, capc, vkc', rfl, hrc, mc, hfc2⟩
      have HZc : Hid (wc.heap[B]? = some (.cells z.cells.toArray 44 (0, 0))) := (mc.block _ (lt_of HZb.out) (fun x => x)).trans HZb.out
      have hTw : TwoT wc ρc Fc bc bc' cc T T := TwoT.init HPCb.out ((Mod.refl (fun _ => False) wb).drew) hrc mc hfc2 HWF.out HWF.out
      have M8c : Hid (Mod (fun _ => False) w8 wc) := (M8b.out.drew).trans mc
      have hBs : Bse W wc ρc Fc := ⟨HT.out, HM8.out.trans M8c.out, fun k hk => by
        have h1 := HM8.out.size
        have h2 := M8b.out.size
        rcases hk with x | x
        · have := HFC.out k x; omega
        · have h3 : wb.heap.size ≤ k := hfc2 k x
          omega⟩
      have hnB := hTw.ltP
      have HnB : Hid (¬ Foot ρc B ∧ ¬ Fc B) := ⟨fun x => by have := HFC.out _ x; have := lt_of HZ8.out; omega, fun x => by have h3 : wb.heap.size ≤ B := hfc2 _ x; have := lt_of HZb.out; omega⟩
      have HF2 : Hid (∀ k, Fc k → w8.heap.size ≤ k) := fun k hk => by have h3 : wb.heap.size ≤ k := hfc2 k hk; have := M8b.out.size; omega
      have hStp := step_any hTw z hzo hzlt hBs (by omega) hls hls
      have HBs := Lib.hid hBs
      clear hrc mc hfc2 hTw hBs hnB
      refine hK.out _ _ (Lib.hid (HZc.out)) ?_; clear hK K hHeld; intro hHeld
      try simp only [gA, gB, gC, Act.put, sA, sB, sC]
      refine hR1 4 rfl fun K hK => ?_
      go_simp
      refine hStp.mono ?_
      rintro e w13 ⟨vv, ρ', G', rfl, hvv, hTw', hTm⟩
      obtain rfl : vv = true := hvv rfl
      clear hvv
      have HZ13 : Hid (w13.heap[B]? = some (.cells z.cells.toArray 44 (0, 0))) := (hTm.keep (lt_of HZc.out) HnB.out.1 HnB.out.2).1.trans HZc.out
      have hge : ∀ k, Foot ρc k ∨ Fc k → w8.heap.size ≤ k := fun k hk => by
        rcases hk with x | x
        · exact HFC.out k x
        · exact HF2.out k x
      have HP13 := Lib.hid ((HP8.out.mod0 M8c.out).mod hTm.m fun k hk => by
        have h1 := hge k hk
        cases hr : ρ1 k with
        | none => rfl
        | _ => exfalso; have := HP8.out.lt k (by rw [hr]; exact fun x => by cases x); omega)
      have HV13 : Hid (FlAt w13 (fun _ => True) v0 (allT T)) := ((HV8.out.mod M8c.out fun _ _ _ x => x).mod hTm.m fun k hk _ x => by have := hge k x; omega).imp fun _ _ => trivial
      have HM13 : Hid (Mod (fun _ => False) W w13) := (HBs.out.step hTm).m
      obtain ⟨mbc', amc', vkc2, hpc'⟩ := hTw'.p
      have HPc3 := Lib.hid hpc'
      have HWc3 := Lib.hid hTw'.wfT
      have HKp := Lib.hid (step_keep (T := T) z)
      obtain ⟨⟨T', eZ⟩, hTZ⟩ : ∃ x : Tr × Int, stepT T z = x := ⟨_, rfl⟩
      rw [hTZ] at HPc3 HWc3 HKp
      dsimp only at HPc3 HWc3 HKp
      simp only [hTZ]
      clear hTw' hTm hge hpc' hTZ hStp
      refine hK.out _ _ (Lib.hid (HZ13.out)) ?_; clear hK K hHeld; intro hHeld
      try simp only [gA, gB, gC, Act.put, sA, sB, sC]
      refine hT 5 rfl (fun _ _ => by go_simp; all_goals with_reducible rfl) ?_
      try simp only [gA, gB, gC, Act.put, sA, sB, sC]
      refine hT 6 rfl (fun _ _ => by go_simp; all_goals with_reducible rfl) ?_
      try simp only [gA, gB, gC, Act.put, sA, sB, sC]
      refine hT 7 rfl (fun _ _ => by go_simp; all_goals with_reducible rfl) ?_
      try simp only [gA, gB, gC, Act.put, sA, sB, sC]
      refine hT 8 rfl (fun _ _ => by go_simp; all_goals with_reducible rfl) ?_
      try simp only [gA, gB, gC, Act.put, sA, sB, sC]
      refine wpAnyH_done (by kernel_rfl) ?_ _
      clear hHeld
      obtain ⟨b0, hb0⟩ : ∃ x, (z.dof == 0) = x := ⟨_, rfl⟩
      obtain ⟨b1, hb1⟩ : ∃ x, (z.dof == 1) = x := ⟨_, rfl⟩
      obtain ⟨b4, hb4⟩ : ∃ x, (z.dof == 4) = x := ⟨_, rfl⟩
      obtain ⟨b5, hb5⟩ : ∃ x, (z.dof == 5) = x := ⟨_, rfl⟩
      obtain ⟨bl, hbl⟩ : ∃ x, (b0 || (b1 || (b4 || b5))) = x := ⟨_, rfl⟩
      obtain ⟨be, hbe⟩ : ∃ x, (eZ != 0) = x := ⟨_, rfl⟩
      have c0 : w13.cell? ⟨B, 0, none⟩ = some (.int .i64 z.dof) := (cell_of HZ13.out 0).trans rfl
      have HKe : Hid (be = true → eZ ≠ 0) := fun h => by rw [h] at hbe; simpa using hbe
      have HKl : Hid (bl = true → z.dof = 0 ∨ z.dof = 1 ∨ z.dof = 4 ∨ z.dof = 5) := fun h => by
        rw [h] at hbl
        rw [← hb0, ← hb1, ← hb4, ← hb5] at hbl
        simp only [Bool.or_eq_true, beq_iff_eq] at hbl
        exact hbl
      have HBL := Lib.hid hbl
      clear hbl
      go_upto_region 16 with (fail)
      go_cut [11] from 65 to 82 (fun v wx => v = .bool bl ∧ w13 = wx)
      case first =>
        cases b0 with
        | true =>
          go_wp2
          go_meet
          case rel => exact ⟨by rw [← HBL.out]; rfl, rfl⟩
        | false =>
        cases b1 with
        | true =>
          go_wp2
          go_meet
          case rel => exact ⟨by rw [← HBL.out]; rfl, rfl⟩
        | false =>
        cases b4 with
        | true =>
          go_wp2
          go_meet
          case rel => exact ⟨by rw [← HBL.out]; rfl, rfl⟩
        | false =>
          go_wp2
          go_meet
          case rel => exact ⟨by rw [← HBL.out]; rfl, rfl⟩
      case rest =>
      obtain ⟨rfl, rfl⟩ := hcut
      clear hb0 hb1 hb4 hb5 c0 HBL
      go_upto_region 17 with (fail)
      go_cut [94] from 83 to 93 (fun v wx => v = .bool false ∧ Hid (Mod (fun _ => False) w13 wx))
      case first =>
        cases be with
        | true =>
          have hTe : T' = T := HKp.out (.inl (HKe.out rfl))
          have hA3 := pall_any HPc3.out HWc3.out (by omega)
          go_wp2_with fail
          refine hA3.mono ?_
          rintro e x1 ⟨v2, rfl, hv2, mx1⟩
          have hF3 := files_any v2 v0 (allT T) x1 (by rw [← hTe]; exact hv2.imp fun _ _ => trivial) (HV13.out.mod mx1 fun _ _ _ x => x) HLn.out
          have MX1 := Lib.hid mx1
          clear hA3 hv2 mx1 hTe
          go_wp2_with fail
          refine hF3.mono ?_
          rintro e x2 ⟨rfl, mx2⟩
          have MX2 : Hid (Mod (fun _ => False) w13 x2) := MX1.out.trans mx2
          clear hF3 mx2 MX1
          go_wp2
          go_meet
          case rel => exact ⟨rfl, MX2⟩
        | false =>
        cases bl with
        | true =>
          have hTe : T' = T := HKp.out (.inr (HKl.out rfl))
          have hA3 := pall_any HPc3.out HWc3.out (by omega)
          go_wp2_with fail
          refine hA3.mono ?_
          rintro e x1 ⟨v2, rfl, hv2, mx1⟩
          have hF3 := files_any v2 v0 (allT T) x1 (by rw [← hTe]; exact hv2.imp fun _ _ => trivial) (HV13.out.mod mx1 fun _ _ _ x => x) HLn.out
          have MX1 := Lib.hid mx1
          clear hA3 hv2 mx1 hTe
          go_wp2_with fail
          refine hF3.mono ?_
          rintro e x2 ⟨rfl, mx2⟩
          have MX2 : Hid (Mod (fun _ => False) w13 x2) := MX1.out.trans mx2
          clear hF3 mx2 MX1
          go_wp2
          go_meet
          case rel => exact ⟨rfl, MX2⟩
        | false =>
          go_wp2
          go_meet
          case rel => exact ⟨rfl, Mod.refl _ _⟩
      case rest =>
      obtain ⟨rfl, HMx⟩ := hcut
      have hA4 := pall_any (HP13.out.mod0 HMx.out) HWF.out (by omega)
      have MW := Lib.hid (HM13.out.trans HMx.out)
      have HV14 := Lib.hid (HV13.out.mod HMx.out fun _ _ _ x => x)
      clear hbe
      go_wp2_with fail
      refine hA4.mono ?_
      rintro e y1 ⟨v3, rfl, hv3, my1⟩
      have hF4 := files_any v3 v0 (allT T) y1 (hv3.imp fun _ _ => trivial) (HV14.out.mod my1 fun _ _ _ x => x) HLn.out
      have MY1 : Hid (Mod (fun _ => False) W y1) := MW.out.trans my1
      clear hA4 hv3 my1
      go_wp2_with fail
      refine hF4.mono ?_
      rintro e y2 ⟨rfl, my2⟩
      have MY2 : Hid (Mod (fun _ => False) W y2) := MY1.out.trans my2
      clear hF4 my2
      go_wp2_with fail
      refine (works_any y2 (HT.out.mod (MY2).out)).mono ?_
      rintro e w9 ⟨rfl, m9⟩
      have M9 : Hid (Mod (fun _ => False) W w9) := (MY2).out.trans m9
      clear m9
      go_wp2
      go_ret
      exact ⟨rfl, M9.out⟩
end Go.Proofs.YtkcnbbjmkkaolaaGreatDoor
