/- The document's tree: Create.
   The document's tree in memory: a file taken out. -/
import Derived.Test.YtkcnbbjmkkaolaaGreatDoorQG04
import Derived.Test.YtkcnbbjmkkaolaaGreatDoorQG00
set_option linter.unusedVariables false
set_option linter.unusedSimpArgs false
namespace Go.Proofs.YtkcnbbjmkkaolaaGreatDoor
open Go.RowKit

theorem wpList_guard {P : Program} {w : World} {ops : Array Oper} {rest : List Oper} {o : Oper} {a : Act} {Q : Exit → Act → World → Prop} (hw : Region.wanted o (yielded ops a.tmps) = true)
    (h : ∀ K : Act → World → Prop, (∀ a w, wpList P ops Q rest a w → K a w) → o.wp P a w K Q) : wpList P ops Q (o :: rest) a w :=
  wpList_step fun K hK => by rw [if_pos hw]; exact h K hK
/-- a whole struct loaded under a guard -/
theorem wpList_load_guard {P : Program} {ops : Array Oper} {rest : List Oper} {op : Oper} {a : Act} {w : World} {Q : Exit → Act → World → Prop} (ty : TypeId) (x : Operand) (ho : op.op = .load ty x) (hw : Region.wanted op (yielded ops a.tmps) = true)
    (b o : Nat) (hx : a.eval x = .pointer (some ⟨b, o, none⟩)) (cs : List Value) (d : TypeDesc) (hc : w.rangeAt b o cs)
    (hu : P.underlying ty = some d) (hd : d.isRow = true) (hi : (P.info? ty).map (·.size) = some cs.length)
    (h : wpList P ops Q rest (a.put op.dst (.agg cs.toArray)) w) : wpList P ops Q (op :: rest) a w :=
  wpList_guard hw fun _ hK => wp_load_mid ty x ho b o hx cs d hc hu hd hi (hK _ _ h)
theorem nd_one {w : World} {P : Nat → Prop} {n : Nd} {vk : Value} {l : List Nat} (h : SlAt w P vk (kidsV l)) : ∀ u ∈ ndC (n, vk), u.oneCell' = true := by
  intro u hu
  obtain ⟨a, cap, rfl, _⟩ := kids_form h
  simp only [ndC, List.mem_cons, List.not_mem_nil, or_false] at hu
  rcases hu with rfl | rfl | rfl | rfl | rfl | rfl | rfl | rfl | rfl | rfl | rfl | rfl | rfl <;> rfl
theorem nd_mod3 {w w' : World} {k : Nat} {n : Nd} {vk : Value} (h : w.heap[k]? = some (ndO n vk)) (hm : Mod (fun _ => False) w w') : w'.heap[k]? = some (ndO n vk) := (hm.block _ (lt_of h) (fun x => x)).trans h
theorem and_top {x : Nat} (h : x < 4294967296) : x &&& 2147483648 = if 2147483648 ≤ x then 2147483648 else 0 := by
  have h2 : x.testBit 31 = decide (2147483648 ≤ x) := by
    rw [Nat.testBit_eq_decide_div_mod_eq]
    by_cases hx : 2147483648 ≤ x
    · rw [decide_eq_true hx, decide_eq_true (by omega)]
    · rw [decide_eq_false hx, decide_eq_false (by omega)]
  apply Nat.eq_of_testBit_eq
  intro k
  rw [Nat.testBit_and, show (2147483648 : Nat) = 2 ^ 31 from rfl, Nat.testBit_two_pow]
  by_cases hk : 31 = k
  · subst hk
    rw [h2]
    by_cases hx : 2147483648 ≤ x
    · rw [if_pos hx, decide_eq_true hx]; rfl
    · rw [if_neg hx, decide_eq_false hx]; rfl
  · rw [decide_eq_false hk, Bool.and_false]
    split
    · rw [Nat.testBit_two_pow, decide_eq_false hk]
    · rw [Nat.zero_testBit]
theorem info_nd : (Tryz.prog.info? 83).map (fun i => (i.zero, i.size, i.bytes)) = some (some (.agg #[.int .u64 0, .bool false, .int .u32 0, .int .u32 0, .string { data := #[] }, .string { data := #[] }, .string { data := #[] }, .int .u32 0, .int .u32 0, .int .u64 0, .string { data := #[] }, .string { data := #[] }, .slice none 0 0]), 13, 144) := by kernel_rfl
theorem nd0_one (n : Nd) : ∀ u ∈ ndC (n, .slice none 0 0), u.oneCell' = true := by
  intro u hu
  simp only [ndC, List.mem_cons, List.not_mem_nil, or_false] at hu
  rcases hu with rfl | rfl | rfl | rfl | rfl | rfl | rfl | rfl | rfl | rfl | rfl | rfl | rfl <;> rfl
theorem src_nd1 (n : Nd) (wr : World) : Src Tryz.prog 13 84 (.slice (some ⟨wr.heap.size, 0, none⟩) 1 1) 1 (ndC (n, .slice none 0 0)) (wr.alloc (.cells (ndC (n, .slice none 0 0)).toArray 83)) :=
  Src.ofSlice _ Tryz.underlying84 _ _ _ _ rfl (fun j u hj => by rw [Addr.add_mid, Nat.zero_add, cell_of (new_at wr _), List.getElem?_toArray]; exact hj) (nd0_one n)
theorem bs_foldN (n : Nd) : List.foldl (fun (cs : Array Value) (x : Value × Nat) => cs.setIfInBounds x.snd x.fst) #[.int .u64 0, .bool false, .int .u32 0, .int .u32 0, .string { data := #[] }, .string { data := #[] }, .string { data := #[] }, .int .u32 0, .int .u32 0, .int .u64 0, .string { data := #[] }, .string { data := #[] }, .slice none 0 0] (ndC (n, .slice none 0 0)).zipIdx = (ndC (n, .slice none 0 0)).toArray := by kernel_rfl
/-- a struct of many cells stored as a whole, wherever it stands -/
theorem op_store_row {P : Program} {w : World} {op : Oper} {a : Act} {K : Act → World → Prop} {Q : Exit → Act → World → Prop} (ty : TypeId) (x y : Operand) (ho : op.op = .store ty x y)
    (g : Nat) (vs : List Value) (hx : a.eval x = .pointer (some ⟨g, 0, none⟩)) (hy : a.eval y = .agg vs.toArray) (T : TypeId) (cur : Array Value) (hg : w.heap[g]? = some (.cells cur T (0, 0))) (hl : vs.length = cur.size) (h1 : ∀ v ∈ vs, v.oneCell' = true) (hi : (P.info? ty).map (·.size) = some vs.length)
    (h : ∀ w', w'.heap[g]? = some (.cells vs.toArray T (0, 0)) → Mod (· = g) w w' → K (a.put op.dst undef) w') : op.wp P a w K Q := by
  refine wp_store_row ty x y ho g vs.toArray hx hy T cur hg (by simpa using hi) (by simpa using hl.symm) (by rw [Array.all_eq_true_iff_forall_mem]; intro v hv; exact h1 v (by simpa using hv)) ?_
  exact h _ (setRow_heap w g cur _ T _ hg) (mod_setRow w g _)
/-- the first free place -/
def frI (l : List Nat) : Nat := l.findIdx (· == 0)
theorem fr_le (l : List Nat) : frI l ≤ l.length := List.findIdx_le_length
theorem fr_lt {l : List Nat} {j : Nat} (h : j < frI l) (hj : j < l.length) : l[j] ≠ 0 := by
  have := List.not_of_lt_findIdx (p := (· == 0)) (xs := l) h
  simpa using this
theorem fr_at {l : List Nat} (h : frI l < l.length) : l[frI l] = 0 := by
  have := List.findIdx_getElem (p := (· == 0)) (xs := l) (w := h)
  exact eq_of_beq this
theorem putKid_eq (p : Nat) : ∀ l : List Nat, putKid l p = if frI l < l.length then l.set (frI l) p else l ++ [p]
  | [] => rfl
  | k :: r => by
    unfold putKid frI
    rw [List.findIdx_cons]
    by_cases hk : k = 0
    · rw [if_pos hk]
      subst hk
      simp
    · rw [if_neg hk, putKid_eq p r]
      have : (k == 0) = false := by simpa using hk
      rw [this]
      simp only [cond_false, List.length_cons, List.set_cons_succ]
      show _ = if frI r + 1 < r.length + 1 then _ else _
      by_cases hr : frI r < r.length
      · rw [if_pos hr, if_pos (by omega)]; rfl
      · rw [if_neg hr, if_neg (by omega)]; rfl
theorem info_u64 : (Tryz.prog.info? 33).map (fun i => (i.zero, i.size, i.bytes)) = some (some (.int .u64 0), 1, 8) := by kernel_rfl
theorem src_k1 (wr : World) : Src Tryz.prog 1 76 (.slice (some ⟨wr.heap.size, 0, none⟩) 1 1) 1 [.int .u64 0] (wr.alloc (.cells #[.int .u64 0] 33)) :=
  Src.ofSlice _ Tryz.underlying76 _ _ _ _ rfl (fun j u hj => by rw [Addr.add_mid, Nat.zero_add, cell_of (new_at wr _)]; rw [← List.getElem?_toArray] at hj; exact hj) (by intro u hu; rw [List.mem_singleton] at hu; rw [hu]; rfl)
/-- a place for the new kid is there -/
def KAt (w wc : World) (F : Nat → Prop) (b : Nat) (L : List Nd) (la g cap i bn : Nat) (d nd : Nd) (K : List Nat) : Prop :=
  ∃ F7 v7 kg kc, RTreeP wc F7 b ⟨L.set i { d with kids := K }, la⟩ g cap v7 ∧ v7 i = .slice (some ⟨kg, 0, none⟩) K.length kc ∧ Mod F w wc ∧ GrowsF w F F7 ∧ ZAt wc w.heap.size ∧ wc.heap[bn]? = some (ndO nd (.slice none 0 0)) ∧ ∀ k, F7 k → k ≠ w.heap.size ∧ k ≠ bn
theorem idx_push {L M : List Nd} {p i : Nat} (h : idxP L p = some i) : idxP (L ++ M) p = some i := by
  unfold idxP at *
  rw [List.findIdx?_append, h]
  rfl
def CPost (F : Nat → Prop) (b : Nat) (R : Tr × Qi × Int) (w : World) (e : Ending) (w' : World) : Prop :=
  e = .returned (.tuple #[.agg (qiC R.2.1).toArray, .int .i64 R.2.2]) ∧ ∃ F' g' cap' vks', RTreeP w' F' b R.1 g' cap' vks' ∧ Mod F w w' ∧ GrowsF w F F'
theorem CPost.err {F : Nat → Prop} {b g cap : Nat} {vks : Nat → Value} {R : Tr × Qi × Int} {T : Tr} {z : Int} {w w' : World} (hR : R = (T, Qi.zero, z)) (h : RTreeP w F b T g cap vks) (m : Mod (fun _ => False) w w') :
    CPost F b R w (.returned (.tuple #[.agg (qiC Qi.zero).toArray, .int .i64 z])) w' := by
  rw [hR]
  exact ⟨rfl, F, g, cap, vks, h.mod m (fun _ x => x.elim), m.mono (fun _ _ x => x.elim), GrowsF.refl _ _⟩
set_option maxHeartbeats 16000000 in
set_option maxRecDepth 100000 in
theorem rCreate_any (F : Nat → Prop) (b g cap : Nat) (T : Tr) (vks : Nat → Value) (p : Nat) (name : ByteArray) (perm m : Nat) (who : ByteArray) (now : Nat) (w : World) (h : RTreeP w F b T g cap vks) (hwf : WF T)
    (hp32 : perm < 4294967296) (hm : m < 256) (hnm : name.size ≤ 65536) (hwh : who.size ≤ 65536) (hlast : T.last + 1 < 18446744073709551616) (hTb : Tabs w) :
    Calls Tryz.prog 40 #[.pointer (some ⟨b, 0, none⟩), .int .u64 p, .string name, .int .u32 perm, .int .u8 m, .string who, .int .u32 now] w (CPost F b (createT T p name perm m who now) w) := by
  have hl := hwf.len
  obtain ⟨V, hV⟩ : ∃ V, w.alloc (.cells #[.int .u8 0, .int .u32 0, .int .u64 0] 35) = V := ⟨_, rfl⟩
  have hv : V.heap[w.heap.size]? = some (qiO Qi.zero) := by subst hV; exact new_at _ _
  have m0 : Mod (fun _ => False) w V := by subst hV; exact (Mod.refl _ w).alloc _
  have hR := h.rv
  have hA := at_any b g cap T vks p V (hR.mod m0) hl
  have hZ0 : ZAt V w.heap.size := hv
  have HZ := Lib.hid hZ0
  have M0 := Lib.hid m0
  have HS : Hid (createT T p name perm m who now = match look T.L p with | none => (T, Qi.zero, 180) | some d => if createE T d name perm m who ≠ 0 then (T, Qi.zero, createE T d name perm m who) else (⟨updN T.L p (fun d => Nd.touch { d with kids := putKid d.kids (T.last + 1) } who now) ++ [newNd T d name perm who now], T.last + 1⟩, qidOf (newNd T d name perm who now), 0)) := rfl
  have c0w := hR.c0
  have hcap := hR.cap
  have H := Lib.hid h
  have HR := Lib.hid hR
  have c0 := keepN m0 c0w
  clear h hv m0 hR hZ0
  cases hlk : look T.L p with
  | none =>
    rw [atI_none hlk] at hA
    have HV : Hid (createT T p name perm m who now = (T, Qi.zero, 180)) := by show _ = _; rw [HS.out, hlk]
    clear HS hlk
    go_enter Tryz.func40, Tryz.ntmps40
    go_wp2_with fail
    refine hA.mono ?_
    rintro e w1 ⟨rfl, rfl⟩
    clear hA hV
    go_upto_region 3 with (fail)
    refine wp_region_lit ?_
    refine wpList_plain rfl fun K hK => ?_
    go_simp
    refine hK _ _ ?_
    clear hK K
    refine wpl_store_row rfl 35 (.tmp 14) (.tmp 26) rfl rfl w.heap.size (qiC Qi.zero) rfl rfl 35 _ HZ.out rfl (qi_one _) (by kernel_rfl) ?_
    intro V9 hv9 mv9
    refine wpList_plain rfl fun K hK => ?_
    go_simp
    refine hK _ _ ?_
    clear hK K
    refine wpList_nil ?_
    have MV : Hid (Mod (fun _ => False) w V9) := (M0.out).trans' mv9 fun k hk e => by omega
    go_wp2
    refine bodyPost_ret (results_cell2 rfl _ _ V9 w.heap.size (qiC Qi.zero) _ rfl (qi_rng hv9) Tryz.underlying35 rfl (by kernel_rfl)) rfl ?_
    exact CPost.err HV.out H.out MV.out
  | some d =>
    obtain ⟨i, hi, hn, hil⟩ := look_get hlk
    rw [atI_some hi] at hA
    have t1 : decide ((i : Int) < 0) = false := by simp
    have HS2 : Hid (createT T p name perm m who now = if createE T d name perm m who ≠ 0 then (T, Qi.zero, createE T d name perm m who) else (⟨updN T.L p (fun d => Nd.touch { d with kids := putKid d.kids (T.last + 1) } who now) ++ [newNd T d name perm who now], T.last + 1⟩, qidOf (newNd T d name perm who now), 0)) := by show _ = _; rw [HS.out, hlk]
    have HE1 : Hid (createE T d name perm m who = if d.dir = false then 181 else if mayB d who 2 = false then 182 else if nameOk name = false ∨ userOk who = false then 183 else if perm &&& 2147483136 ≠ 0 ∨ modeB m = false ∨ (2147483648 ≤ perm ∧ m ≠ 0) then 186 else if kidOf T.L d name ≠ none then 184 else if 1024 ≤ T.L.length ∨ 112 ≤ cntOf d then 6 else 0) := rfl
    have hno := hwf.ok d (List.mem_of_getElem? hn)
    have i1 : (0 : Int) ≤ (i : Int) := by omega
    have i2 : (i : Int) < (T.L.length : Int) := by omega
    have i3 : (T.L.length : Int) ≤ (cap : Int) := by omega
    have hln := ndC_len (d, vks i)
    have hkd := H.out.kid i d hn
    have hone : ∀ u ∈ ndC (d, vks i), u.oneCell' = true := nd_one (HR.out.kid i d hn)
    have hre : V.rangeAt g (i * 13) (ndC (d, vks i)) := (HR.out.mod M0.out).elem hn
    have HD := Lib.hid hno
    clear HS
    go_enter Tryz.func40, Tryz.ntmps40
    go_wp2_with fail
    refine hA.mono ?_
    rintro e w1 ⟨rfl, rfl⟩
    clear hA hV
    go_upto_region 5 with (first | refine wpList_load_mid rfl 83 (.tmp 32) rfl g (i * 13) rfl (ndC (d, vks i)) _ hre Tryz.underlying83 rfl (by kernel_rfl) ?_ | (refine wpl_store_row rfl 83 (.tmp 17) (.tmp 33) rfl rfl V.heap.size (ndC (d, vks i)) rfl rfl 83 _ (new_at _ _) rfl hone (by kernel_rfl) ?_; intro V1 hd1 md1))
    have hVs : w.heap.size < V.heap.size := lt_of HZ.out
    have M1 : Hid (Mod (fun _ => False) w V1) := (M0.out.alloc _).trans' md1 fun k hk e => by omega
    have hz1 := Lib.hid (HZ.out.mod3 ((((Mod.refl (fun _ => False) V).alloc _)).trans' md1 fun k hk e => by omega))
    clear hre md1 hone c0
    generalize hbd : V.heap.size = bd at *
    have hD1 : Hid (V1.heap[bd]? = some (ndO d (vks i))) := hd1
    have hMy := fun U => rmay_any d (vks i) who 2 U (by decide) hno.perm
    have e1 : V1.cell? ⟨bd, 1, none⟩ = some (.bool d.dir) := (cell_of hd1 1).trans rfl
    cases hdd : d.dir with
    | false =>
      rw [hdd] at e1
      have he : createE T d name perm m who = 181 := HE1.out.trans (if_pos hdd)
      have HV : Hid (createT T p name perm m who now = (T, Qi.zero, 181)) := by show _ = _; rw [HS2.out, he]; rfl
      clear HS2 he
      go_upto_region 6 with (fail)
      refine wp_region_lit ?_
      refine wpList_plain rfl fun K hK => ?_
      go_simp
      refine hK _ _ ?_
      clear hK K
      refine wpl_store_row rfl 35 (.tmp 14) (.tmp 37) rfl rfl w.heap.size (qiC Qi.zero) rfl rfl 35 _ hz1.out rfl (qi_one _) (by kernel_rfl) ?_
      intro V9 hv9 mv9
      refine wpList_plain rfl fun K hK => ?_
      go_simp
      refine hK _ _ ?_
      clear hK K
      refine wpList_nil ?_
      have MV : Hid (Mod (fun _ => False) w V9) := (M1.out).trans' mv9 fun k hk e => by omega
      go_wp2
      refine bodyPost_ret (results_cell2 rfl _ _ V9 w.heap.size (qiC Qi.zero) _ rfl (qi_rng hv9) Tryz.underlying35 rfl (by kernel_rfl)) rfl ?_
      exact CPost.err HV.out H.out MV.out
    | true =>
    rw [hdd] at e1
    have HE2 := Lib.hid (HE1.out.trans (if_neg (by rw [hdd]; simp)))
    have hr1 := nd_rng hd1
    clear HE1 hd1 hdd
    go_wp2_with (refine wpList_load_mid rfl 83 (.tmp 17) rfl bd 0 rfl (ndC (d, vks i)) _ hr1 Tryz.underlying83 rfl (by kernel_rfl) ?_)
    refine (hMy _).mono ?_
    rintro e V2 ⟨rfl, m2⟩
    have M2 : Hid (Mod (fun _ => False) w V2) := M1.out.trans m2
    have hz2 := Lib.hid (hz1.out.mod3 m2)
    have hD2 := Lib.hid (nd_mod3 hD1.out m2)
    clear hMy e1 hr1 hz1 hD1 m2 M1
    cases hmy : mayB d who 2 with
    | false =>
      have he : createE T d name perm m who = 182 := HE2.out.trans (if_pos hmy)
      have HV : Hid (createT T p name perm m who now = (T, Qi.zero, 182)) := by show _ = _; rw [HS2.out, he]; rfl
      clear HS2 he
      go_upto_region 8 with (fail)
      refine wp_region_lit ?_
      refine wpList_plain rfl fun K hK => ?_
      go_simp
      refine hK _ _ ?_
      clear hK K
      refine wpl_store_row rfl 35 (.tmp 14) (.tmp 42) rfl rfl w.heap.size (qiC Qi.zero) rfl rfl 35 _ hz2.out rfl (qi_one _) (by kernel_rfl) ?_
      intro V9 hv9 mv9
      refine wpList_plain rfl fun K hK => ?_
      go_simp
      refine hK _ _ ?_
      clear hK K
      refine wpList_nil ?_
      have MV : Hid (Mod (fun _ => False) w V9) := (M2.out).trans' mv9 fun k hk e => by omega
      go_wp2
      refine bodyPost_ret (results_cell2 rfl _ _ V9 w.heap.size (qiC Qi.zero) _ rfl (qi_rng hv9) Tryz.underlying35 rfl (by kernel_rfl)) rfl ?_
      exact CPost.err HV.out H.out MV.out
    | true =>
    have HE3 := Lib.hid (HE2.out.trans (if_neg (by rw [hmy]; simp)))
    clear HE2 hmy
    have hN := rname_any name V2 (by omega) (hTb.mod M2.out)
    go_wp2_with fail
    refine hN.mono ?_
    rintro e V3 ⟨rfl, m3⟩
    have M3 : Hid (Mod (fun _ => False) w V3) := M2.out.trans m3
    have hz3 := Lib.hid (hz2.out.mod3 m3)
    have hD3 := Lib.hid (nd_mod3 hD2.out m3)
    clear hN hz2 hD2 m3 M2
    cases hnk : nameOk name with
    | false =>
      have he : createE T d name perm m who = 183 := HE3.out.trans (if_pos (Or.inl hnk))
      have HV : Hid (createT T p name perm m who now = (T, Qi.zero, 183)) := by show _ = _; rw [HS2.out, he]; rfl
      clear HS2 he
      go_upto_region 10 with (fail)
      refine wp_region_lit ?_
      refine wpList_plain rfl fun K hK => ?_
      go_simp
      refine hK _ _ ?_
      clear hK K
      refine wpl_store_row rfl 35 (.tmp 14) (.tmp 51) rfl rfl w.heap.size (qiC Qi.zero) rfl rfl 35 _ hz3.out rfl (qi_one _) (by kernel_rfl) ?_
      intro V9 hv9 mv9
      refine wpList_plain rfl fun K hK => ?_
      go_simp
      refine hK _ _ ?_
      clear hK K
      refine wpList_nil ?_
      have MV : Hid (Mod (fun _ => False) w V9) := (M3.out).trans' mv9 fun k hk e => by omega
      go_wp2
      refine bodyPost_ret (results_cell2 rfl _ _ V9 w.heap.size (qiC Qi.zero) _ rfl (qi_rng hv9) Tryz.underlying35 rfl (by kernel_rfl)) rfl ?_
      exact CPost.err HV.out H.out MV.out
    | true =>
    have hU := ruser_any who V3 (by omega) (hTb.mod M3.out)
    go_wp2_with fail
    refine hU.mono ?_
    rintro e V4 ⟨rfl, m4⟩
    have M4 : Hid (Mod (fun _ => False) w V4) := M3.out.trans m4
    have hz4 := Lib.hid (hz3.out.mod3 m4)
    have hD4 := Lib.hid (nd_mod3 hD3.out m4)
    clear hU hz3 hD3 m4 M3
    cases huk : userOk who with
    | false =>
      have he : createE T d name perm m who = 183 := HE3.out.trans (if_pos (Or.inr huk))
      have HV : Hid (createT T p name perm m who now = (T, Qi.zero, 183)) := by show _ = _; rw [HS2.out, he]; rfl
      clear HS2 he
      go_upto_region 10 with (fail)
      refine wp_region_lit ?_
      refine wpList_plain rfl fun K hK => ?_
      go_simp
      refine hK _ _ ?_
      clear hK K
      refine wpl_store_row rfl 35 (.tmp 14) (.tmp 51) rfl rfl w.heap.size (qiC Qi.zero) rfl rfl 35 _ hz4.out rfl (qi_one _) (by kernel_rfl) ?_
      intro V9 hv9 mv9
      refine wpList_plain rfl fun K hK => ?_
      go_simp
      refine hK _ _ ?_
      clear hK K
      refine wpList_nil ?_
      have MV : Hid (Mod (fun _ => False) w V9) := (M4.out).trans' mv9 fun k hk e => by omega
      go_wp2
      refine bodyPost_ret (results_cell2 rfl _ _ V9 w.heap.size (qiC Qi.zero) _ rfl (qi_rng hv9) Tryz.underlying35 rfl (by kernel_rfl)) rfl ?_
      exact CPost.err HV.out H.out MV.out
    | true =>
    have HE4 := Lib.hid (HE3.out.trans (if_neg (by rw [hnk, huk]; simp)))
    clear HE3 hnk huk
    have zA : bits .andNot .u32 (perm : Int) 2147484159 = ((perm &&& 2147483136 : Nat) : Int) := u32_andNot_nat perm 2147484159 hp32 (by decide)
    have zD : bits .and .u32 (perm : Int) 2147483648 = ((perm &&& 2147483648 : Nat) : Int) := u32_and_nat perm 2147483648 hp32 (by decide)
    have hMo := rmode_any m V4 hm
    have hTp := and_top hp32
    obtain ⟨qD, hqD⟩ : ∃ q, perm &&& 2147483648 = q := ⟨_, rfl⟩
    obtain ⟨qA, hqA⟩ : ∃ q, perm &&& 2147483136 = q := ⟨_, rfl⟩
    rw [hqD] at zD hTp
    rw [hqA] at zA HE4
    have HqD := Lib.hid hqD
    have HTp := Lib.hid hTp
    clear hqD hqA hTp
    by_cases hA0 : qA = 0
    case neg =>
      have t2 : ((qA : Int) != 0) = true := by simp; exact hA0
      have t2' : (qA != 0) = true := by simpa using hA0
      clear hMo
      have he : createE T d name perm m who = 186 := HE4.out.trans (if_pos (Or.inl hA0))
      have HV : Hid (createT T p name perm m who now = (T, Qi.zero, 186)) := by show _ = _; rw [HS2.out, he]; rfl
      clear HS2 he
      go_upto_region 12 with (fail)
      refine wp_region_lit ?_
      refine wpList_plain rfl fun K hK => ?_
      go_simp
      refine hK _ _ ?_
      clear hK K
      refine wpl_store_row rfl 35 (.tmp 14) (.tmp 69) rfl rfl w.heap.size (qiC Qi.zero) rfl rfl 35 _ hz4.out rfl (qi_one _) (by kernel_rfl) ?_
      intro V9 hv9 mv9
      refine wpList_plain rfl fun K hK => ?_
      go_simp
      refine hK _ _ ?_
      clear hK K
      refine wpList_nil ?_
      have MV : Hid (Mod (fun _ => False) w V9) := (M4.out).trans' mv9 fun k hk e => by omega
      go_wp2
      refine bodyPost_ret (results_cell2 rfl _ _ V9 w.heap.size (qiC Qi.zero) _ rfl (qi_rng hv9) Tryz.underlying35 rfl (by kernel_rfl)) rfl ?_
      exact CPost.err HV.out H.out MV.out
    have t2 : ((qA : Int) != 0) = false := by simp; exact hA0
    have t2' : (qA != 0) = false := by simpa using hA0
    cases hmo : modeB m with
    | false =>
      rw [hmo] at hMo
      go_wp2_with fail
      refine hMo.mono ?_
      rintro e V5 ⟨rfl, rfl⟩
      clear hMo
      have he : createE T d name perm m who = 186 := HE4.out.trans (if_pos (Or.inr (Or.inl hmo)))
      have HV : Hid (createT T p name perm m who now = (T, Qi.zero, 186)) := by show _ = _; rw [HS2.out, he]; rfl
      clear HS2 he
      go_upto_region 12 with (fail)
      refine wp_region_lit ?_
      refine wpList_plain rfl fun K hK => ?_
      go_simp
      refine hK _ _ ?_
      clear hK K
      refine wpl_store_row rfl 35 (.tmp 14) (.tmp 69) rfl rfl w.heap.size (qiC Qi.zero) rfl rfl 35 _ hz4.out rfl (qi_one _) (by kernel_rfl) ?_
      intro V9 hv9 mv9
      refine wpList_plain rfl fun K hK => ?_
      go_simp
      refine hK _ _ ?_
      clear hK K
      refine wpList_nil ?_
      have MV : Hid (Mod (fun _ => False) w V9) := (M4.out).trans' mv9 fun k hk e => by omega
      go_wp2
      refine bodyPost_ret (results_cell2 rfl _ _ V9 w.heap.size (qiC Qi.zero) _ rfl (qi_rng hv9) Tryz.underlying35 rfl (by kernel_rfl)) rfl ?_
      exact CPost.err HV.out H.out MV.out
    | true =>
    rw [hmo] at hMo
    by_cases hDm : 2147483648 ≤ perm ∧ m ≠ 0
    · have t3 : ((qD : Int) != 0) = true := by rw [HTp.out, if_pos hDm.1]; rfl
      have t3' : (qD != 0) = true := by rw [HTp.out, if_pos hDm.1]; rfl
      have t4 : ((m : Int) != 0) = true := by simp; exact hDm.2
      have t4' : (m != 0) = true := by simpa using hDm.2
      go_wp2_with fail
      refine hMo.mono ?_
      rintro e V5 ⟨rfl, rfl⟩
      clear hMo
      have he : createE T d name perm m who = 186 := HE4.out.trans (if_pos (Or.inr (Or.inr hDm)))
      have HV : Hid (createT T p name perm m who now = (T, Qi.zero, 186)) := by show _ = _; rw [HS2.out, he]; rfl
      clear HS2 he
      go_upto_region 12 with (fail)
      refine wp_region_lit ?_
      refine wpList_plain rfl fun K hK => ?_
      go_simp
      refine hK _ _ ?_
      clear hK K
      refine wpl_store_row rfl 35 (.tmp 14) (.tmp 69) rfl rfl w.heap.size (qiC Qi.zero) rfl rfl 35 _ hz4.out rfl (qi_one _) (by kernel_rfl) ?_
      intro V9 hv9 mv9
      refine wpList_plain rfl fun K hK => ?_
      go_simp
      refine hK _ _ ?_
      clear hK K
      refine wpList_nil ?_
      have MV : Hid (Mod (fun _ => False) w V9) := (M4.out).trans' mv9 fun k hk e => by omega
      go_wp2
      refine bodyPost_ret (results_cell2 rfl _ _ V9 w.heap.size (qiC Qi.zero) _ rfl (qi_rng hv9) Tryz.underlying35 rfl (by kernel_rfl)) rfl ?_
      exact CPost.err HV.out H.out MV.out
    have HE5 := Lib.hid (HE4.out.trans (if_neg (by rintro (x | x | x); exact x hA0; rw [hmo] at x; cases x; exact hDm x)))
    obtain ⟨isD, hisD⟩ : ∃ c, decide (2147483648 ≤ perm) = c := ⟨_, rfl⟩
    have t3 : ((qD : Int) != 0) = isD := by
      rw [HTp.out, ← hisD]
      by_cases hx : 2147483648 ≤ perm
      · rw [if_pos hx, decide_eq_true hx]; rfl
      · rw [if_neg hx, decide_eq_false hx]; rfl
    have t3' : (qD != 0) = isD := by rw [← t3]; cases qD <;> rfl
    have hDx : isD = true → ((m : Int) != 0) = false := fun x => by
      simp
      by_cases hm0 : m = 0
      · exact hm0
      · exact absurd ⟨of_decide_eq_true (hisD.trans x), hm0⟩ hDm
    have HID := Lib.hid hisD
    clear hisD HE4 hmo hDm hA0 HTp HqD
    have hKd := rkid_any b g cap T vks i d name V4 (HR.out.mod M4.out) hl hn (by have := hno.kl; omega)
    go_upto_region 11 with (fail)
    go_cut [68] from 52 to 68 (fun v wc => v = .bool false ∧ V4 = wc)
    case first =>
      go_wp2_with fail
      refine hMo.mono ?_
      rintro e V5 ⟨rfl, rfl⟩
      clear hMo
      cases isD with
      | true =>
        have t4 := hDx rfl
        go_wp2
        go_meet
        case rel => exact ⟨rfl, rfl⟩
      | false =>
        go_wp2
        go_meet
        case rel => exact ⟨rfl, rfl⟩
    case rest =>
      obtain ⟨rfl, rfl⟩ := hcut
      clear hMo hDx t2 t2' zA
      cases hkg : kidGo T.L name d.kids with
      | some k =>
        obtain ⟨j, hj, _, _⟩ := kid_atI hwf.rise hkg
        rw [hj] at hKd
        have t5 : decide ((0 : Int) ≤ (j : Int)) = true := by simp
        clear hj
        go_wp2_with fail
        refine hKd.mono ?_
        rintro e V5 ⟨rfl, rfl⟩
        clear hKd
        have he : createE T d name perm m who = 184 := HE5.out.trans (if_pos (by unfold kidOf; rw [hkg]; simp))
        have HV : Hid (createT T p name perm m who now = (T, Qi.zero, 184)) := by show _ = _; rw [HS2.out, he]; rfl
        clear HS2 he
        go_upto_region 14 with (fail)
        refine wp_region_lit ?_
        refine wpList_plain rfl fun K hK => ?_
        go_simp
        refine hK _ _ ?_
        clear hK K
        refine wpl_store_row rfl 35 (.tmp 14) (.tmp 75) rfl rfl w.heap.size (qiC Qi.zero) rfl rfl 35 _ hz4.out rfl (qi_one _) (by kernel_rfl) ?_
        intro V9 hv9 mv9
        refine wpList_plain rfl fun K hK => ?_
        go_simp
        refine hK _ _ ?_
        clear hK K
        refine wpList_nil ?_
        have MV : Hid (Mod (fun _ => False) w V9) := (M4.out).trans' mv9 fun k hk e => by omega
        go_wp2
        refine bodyPost_ret (results_cell2 rfl _ _ V9 w.heap.size (qiC Qi.zero) _ rfl (qi_rng hv9) Tryz.underlying35 rfl (by kernel_rfl)) rfl ?_
        exact CPost.err HV.out H.out MV.out
      | none =>
      rw [kid_none hkg] at hKd
      have HE6 := Lib.hid (HE5.out.trans (if_neg (by unfold kidOf; rw [hkg]; simp)))
      clear HE5
      go_wp2_with fail
      refine hKd.mono ?_
      rintro e V5 ⟨rfl, rfl⟩
      clear hKd
      have c0 := keepN M4.out c0w
      by_cases hful : 1024 ≤ T.L.length
      · have t5 : decide ((1024 : Int) ≤ (T.L.length : Int)) = true := by simp; omega
        have t5' : decide (1024 ≤ T.L.length) = true := by simp; omega
        have he : createE T d name perm m who = 6 := HE6.out.trans (if_pos (Or.inl hful))
        have HV : Hid (createT T p name perm m who now = (T, Qi.zero, 6)) := by show _ = _; rw [HS2.out, he]; rfl
        clear HS2 he
        go_upto_region 16 with (fail)
        refine wp_region_lit ?_
        refine wpList_plain rfl fun K hK => ?_
        go_simp
        refine hK _ _ ?_
        clear hK K
        refine wpl_store_row rfl 35 (.tmp 14) (.tmp 87) rfl rfl w.heap.size (qiC Qi.zero) rfl rfl 35 _ hz4.out rfl (qi_one _) (by kernel_rfl) ?_
        intro V9 hv9 mv9
        refine wpList_plain rfl fun K hK => ?_
        go_simp
        refine hK _ _ ?_
        clear hK K
        refine wpList_nil ?_
        have MV : Hid (Mod (fun _ => False) w V9) := (M4.out).trans' mv9 fun k hk e => by omega
        go_wp2
        refine bodyPost_ret (results_cell2 rfl _ _ V9 w.heap.size (qiC Qi.zero) _ rfl (qi_rng hv9) Tryz.underlying35 rfl (by kernel_rfl)) rfl ?_
        exact CPost.err HV.out H.out MV.out
      have t5 : decide ((1024 : Int) ≤ (T.L.length : Int)) = false := by simp; omega
      have t5' : decide (1024 ≤ T.L.length) = false := by simp; omega
      have hCt := rcount_any d (vks i) _ V4 (HR.out.mod M4.out |>.kid i d hn) (by have := hno.kl; omega)
      have hr4 := nd_rng hD4.out
      go_wp2_with (refine wpList_load_guard 83 (.tmp 17) rfl (by rfl) bd 0 rfl (ndC (d, vks i)) _ hr4 Tryz.underlying83 rfl (by kernel_rfl) ?_)
      refine hCt.mono ?_
      rintro e V5 ⟨rfl, m5⟩
      have M5 : Hid (Mod (fun _ => False) w V5) := M4.out.trans m5
      have hz5 := Lib.hid (hz4.out.mod3 m5)
      have hD5 := Lib.hid (nd_mod3 hD4.out m5)
      clear hCt hr4 hz4 hD4 m5 M4 c0
      by_cases hct : 112 ≤ cntOf d
      · have t6 : decide ((112 : Int) ≤ (cntOf d : Int)) = true := by simp; omega
        have t6' : decide (112 ≤ cntOf d) = true := by simp; omega
        have he : createE T d name perm m who = 6 := HE6.out.trans (if_pos (Or.inr hct))
        have HV : Hid (createT T p name perm m who now = (T, Qi.zero, 6)) := by show _ = _; rw [HS2.out, he]; rfl
        clear HS2 he
        go_upto_region 16 with (fail)
        refine wp_region_lit ?_
        refine wpList_plain rfl fun K hK => ?_
        go_simp
        refine hK _ _ ?_
        clear hK K
        refine wpl_store_row rfl 35 (.tmp 14) (.tmp 87) rfl rfl w.heap.size (qiC Qi.zero) rfl rfl 35 _ hz5.out rfl (qi_one _) (by kernel_rfl) ?_
        intro V9 hv9 mv9
        refine wpList_plain rfl fun K hK => ?_
        go_simp
        refine hK _ _ ?_
        clear hK K
        refine wpList_nil ?_
        have MV : Hid (Mod (fun _ => False) w V9) := (M5.out).trans' mv9 fun k hk e => by omega
        go_wp2
        refine bodyPost_ret (results_cell2 rfl _ _ V9 w.heap.size (qiC Qi.zero) _ rfl (qi_rng hv9) Tryz.underlying35 rfl (by kernel_rfl)) rfl ?_
        exact CPost.err HV.out H.out MV.out
      have t6 : decide ((112 : Int) ≤ (cntOf d : Int)) = false := by simp; omega
      have t6' : decide (112 ≤ cntOf d) = false := by simp; omega
      have he : createE T d name perm m who = 0 := HE6.out.trans (if_neg (by rintro (x | x); exact hful x; exact hct x))
      have HS3 : Hid (createT T p name perm m who now = (⟨updN T.L p (fun d => Nd.touch { d with kids := putKid d.kids (T.last + 1) } who now) ++ [newNd T d name perm who now], T.last + 1⟩, qidOf (newNd T d name perm who now), 0)) := by show _ = _; rw [HS2.out, he]; rfl
      clear HS2 HE6 he
      have hR5 := H.out.mod M5.out (fun _ x => x.elim)
      obtain ⟨la, hla⟩ : ∃ la, T.last + 1 = la := ⟨_, rfl⟩
      have z17 : IntKind.u64.wrap ((T.last : Int) + 1) = (la : Int) := by rw [IntKind.wrap_u64, ← hla]; omega
      have z17' : ((T.last : Int) + 1) % 18446744073709551616 = (la : Int) := by rw [← hla]; omega
      have c1 : V5.cell? ⟨b, 1, none⟩ = some (.int .u64 T.last) := hR5.rv.c1
      have z1 : V5.frozen? ⟨b, 1, none⟩ = false := free_of hR5.obj 1
      obtain ⟨hL1, mL1⟩ := hR5.setLast la
      obtain ⟨W1, hW1⟩ : ∃ W1, V5.setCell ⟨b, 1, none⟩ (.int .u64 (la : Int)) = W1 := ⟨_, rfl⟩
      rw [hW1] at hL1 mL1
      have hbw : b < w.heap.size := H.out.lt b H.out.fb
      have MF1 : Hid (Mod F w W1) := (M5.out.mono fun _ _ x => x.elim).trans (mL1.mono fun k _ e => by rw [e]; exact H.out.fb)
      have hz6 : Hid (ZAt W1 w.heap.size) := (mL1.block _ (lt_of hz5.out) (fun e => by omega)).trans hz5.out
      have hD6 : Hid (W1.heap[bd]? = some (ndO d (vks i))) := (mL1.block _ (lt_of hD5.out) (fun e => by omega)).trans hD5.out
      have hbdl : bd < W1.heap.size := lt_of hD6.out
      have HL1 := Lib.hid hL1
      go_upto_region 18 with (fail)
      clear c1 z1 z17 z17' hW1 hL1 mL1 hR5 hz5 hD5 M5 t5 t5' t6 t6' hct t1
      have cL : W1.cell? ⟨b, 1, none⟩ = some (.int .u64 la) := HL1.out.rv.c1
      have cG : W1.cell? ⟨bd, 5, none⟩ = some (.string d.gid) := (cell_of hD6.out 5).trans rfl
      refine wp_region_held_drew (S := fun w' => Hid (Mod (fun _ => False) W1 w')) (by kernel_rfl) (Lib.hid (Mod.refl (fun _ => False) W1).drew) (fun hHeld => ?_)
      refine hT 0 rfl (fun _ _ => by go_simp; all_goals with_reducible rfl) ?_
      try simp only [gA, gB, gC, Act.put, sA, sB, sC]
      refine hT 1 rfl (fun _ _ => by go_simp; all_goals with_reducible rfl) ?_
      try simp only [gA, gB, gC, Act.put, sA, sB, sC]
      refine hT 2 rfl (fun _ _ => by go_simp; all_goals with_reducible rfl) ?_
      try simp only [gA, gB, gC, Act.put, sA, sB, sC]
      refine hT 3 rfl (fun wH hSw => by have cH := keepN hSw.out cL; clear hSw; go_simp; all_goals with_reducible rfl) ?_
      try simp only [gA, gB, gC, Act.put, sA, sB, sC]
      refine hT 4 rfl (fun _ _ => by go_simp; all_goals with_reducible rfl) ?_
      try simp only [gA, gB, gC, Act.put, sA, sB, sC]
      refine hT 5 rfl (fun _ _ => by go_simp; all_goals with_reducible rfl) ?_
      try simp only [gA, gB, gC, Act.put, sA, sB, sC]
      refine hT 6 rfl (fun _ _ => by go_simp; all_goals with_reducible rfl) ?_
      try simp only [gA, gB, gC, Act.put, sA, sB, sC]
      refine hT 7 rfl (fun _ _ => by go_simp; all_goals with_reducible rfl) ?_
      try simp only [gA, gB, gC, Act.put, sA, sB, sC]
      refine hT 8 rfl (fun _ _ => by go_simp; all_goals with_reducible rfl) ?_
      try simp only [gA, gB, gC, Act.put, sA, sB, sC]
      refine hT 9 rfl (fun wH hSw => by have cH := keepN hSw.out cG; clear hSw; go_simp; all_goals with_reducible rfl) ?_
      try simp only [gA, gB, gC, Act.put, sA, sB, sC]
      refine hT 10 rfl (fun _ _ => by go_simp; all_goals with_reducible rfl) ?_
      try simp only [gA, gB, gC, Act.put, sA, sB, sC]
      refine hT 11 rfl (fun _ _ => by go_simp; all_goals with_reducible rfl) ?_
      try simp only [gA, gB, gC, Act.put, sA, sB, sC]
      refine hT 12 rfl (fun _ _ => by go_simp; all_goals with_reducible rfl) ?_
      try simp only [gA, gB, gC, Act.put, sA, sB, sC]
      refine hT 13 rfl (fun _ _ => by go_simp; all_goals with_reducible rfl) ?_
      try simp only [gA, gB, gC, Act.put, sA, sB, sC]
      refine hT 14 rfl (fun _ _ => by go_simp; all_goals with_reducible rfl) ?_
      try simp only [gA, gB, gC, Act.put, sA, sB, sC]
      refine hT 15 rfl (fun _ _ => by go_simp; all_goals with_reducible rfl) ?_
      try simp only [gA, gB, gC, Act.put, sA, sB, sC]
      refine hR1 16 rfl fun K hK => ?_
      go_simp
      have hnb := new_at W1.drew (.cells #[.int .u64 0, .bool false, .int .u32 0, .int .u32 0, .string { data := #[] }, .string { data := #[] }, .string { data := #[] }, .int .u32 0, .int .u32 0, .int .u64 0, .string { data := #[] }, .string { data := #[] }, .slice none 0 0] 83)
      have mA := hHeld.out.alloc (.cells #[.int .u64 0, .bool false, .int .u32 0, .int .u32 0, .string { data := #[] }, .string { data := #[] }, .string { data := #[] }, .int .u32 0, .int .u32 0, .int .u64 0, .string { data := #[] }, .string { data := #[] }, .slice none 0 0] 83)
      refine hK.out _ _ (Lib.hid (mA)) ?_; clear hK K hHeld; intro hHeld
      try simp only [gA, gB, gC, Act.put, sA, sB, sC]
      clear mA
      refine hR1 17 rfl fun K hK => ?_
      refine Eq.mpr (if_pos ?hwant) ?_
      case hwant => rfl
      refine op_store_row 83 (.tmp 18) (.tmp 110) rfl W1.heap.size (ndC (⟨la, isD, 0, 0, who, d.gid, who, now, now, p, name, ByteArray.empty, []⟩, .slice none 0 0)) rfl rfl 83 _ hnb rfl (nd0_one _) (by kernel_rfl) ?_
      intro W2 hn2 mn2
      have mW2 : Mod (fun _ => False) W1 W2 := hHeld.out.trans' mn2 fun k hk e => by omega
      have hN2 : Hid (W2.heap[W1.heap.size]? = some (ndO ⟨la, isD, 0, 0, who, d.gid, who, now, now, p, name, ByteArray.empty, []⟩ (.slice none 0 0))) := hn2
      clear mn2 hn2 hnb
      refine hK.out _ _ (Lib.hid (mW2)) ?_; clear hK K hHeld; intro hHeld
      try simp only [gA, gB, gC, Act.put, sA, sB, sC]
      refine wpAnyH_done (by kernel_rfl) ?_ _
      have MW2 : Hid (Mod (fun _ => False) W1 W2) := hHeld.out
      have hz7 := Lib.hid (hz6.out.mod3 MW2.out)
      have hD7 := Lib.hid (nd_mod3 hD6.out MW2.out)
      have HL2 := Lib.hid (HL1.out.mod MW2.out (fun _ x => x.elim))
      have MF2 : Hid (Mod F w W2) := MF1.out.trans (MW2.out.mono fun _ _ x => x.elim)
      clear mW2 cL cG hz6 hD6 HL1 MF1 MW2 hHeld
      generalize hbn : W1.heap.size = bn at *
      have q1 : W2.cell? ⟨bn, 1, none⟩ = some (.bool isD) := (cell_of hN2.out 1).trans rfl
      obtain ⟨mk, hmk⟩ : ∃ mk, (if isD = true then 511 else 438) = mk := ⟨_, rfl⟩
      go_upto_if 112 with (fail)
      go_cut [19] from 111 to 112 (fun v wc => v = .int .u32 mk ∧ W2 = wc)
      case first =>
        cases isD with
        | true =>
          go_wp2
          go_meet
          case rel => exact ⟨by rw [← hmk]; rfl, rfl⟩
        | false =>
          go_wp2
          go_meet
          case rel => exact ⟨by rw [← hmk]; rfl, rfl⟩
      case rest =>
      obtain ⟨rfl, rfl⟩ := hcut
      have hmk2 : mk < 4294967296 := by rw [← hmk]; split <;> decide
      have q3 : W2.cell? ⟨bd, 3, none⟩ = some (.int .u32 d.perm) := (cell_of hD7.out 3).trans rfl
      have zf : W2.frozen? ⟨bn, 3, none⟩ = false := free_of hN2.out 3
      have z511 : bits .and .u32 (perm : Int) 511 = ((perm &&& 511 : Nat) : Int) := u32_and_nat perm 511 hp32 (by decide)
      have q33 : W2.cell? ⟨bn, 3, none⟩ = some (.int .u32 0) := (cell_of hN2.out 3).trans rfl
      have zM := u32_andNot_nat mk d.perm hmk2 (by have := HD.out.perm; omega)
      have zF := u32_andNot_nat (perm &&& 511) (mk &&& (4294967295 - d.perm)) (by have : perm &&& 511 ≤ 511 := Nat.and_le_right; omega) (by have : mk &&& (4294967295 - d.perm) ≤ mk := Nat.and_le_left; omega)
      obtain ⟨np, hnp⟩ : ∃ np, perm &&& 511 &&& (4294967295 - (mk &&& (4294967295 - d.perm))) = np := ⟨_, rfl⟩
      have hdp : d.path = p := by
        obtain ⟨n2, h1, h2, _⟩ := idx_some hi
        rw [hn] at h1; injection h1 with h1; rw [h1]; exact h2
      have hND : newNd T d name perm who now = ⟨la, isD, 0, np, who, d.gid, who, now, now, p, name, ByteArray.empty, []⟩ := by
        unfold newNd newPerm
        rw [hla, HID.out, hdp, hmk, hnp]
      obtain ⟨nd1, hnd1⟩ : ∃ nd1, newNd T d name perm who now = nd1 := ⟨_, rfl⟩
      rw [hnp] at zF
      generalize mk &&& (4294967295 - d.perm) = mq at *
      generalize perm &&& 511 = pq at *
      obtain ⟨W3, hW3⟩ : ∃ W3, W2.setCell ⟨bn, 3, none⟩ (.int .u32 (np : Int)) = W3 := ⟨_, rfl⟩
      have hN3 : Hid (W3.heap[bn]? = some (ndO nd1 (.slice none 0 0))) := by rw [← hnd1, hND, ← hW3]; exact heap_set hN2.out 3 _
      have m3 : Mod (· = bn) W2 W3 := by rw [← hW3]; exact Mod.set1 W2 bn 3 _
      have hnk : nd1.kids = [] := by rw [← hnd1]; rfl
      have hnp1 : nd1.path = la := by rw [← hnd1, hND]
      rw [hnd1] at HS3
      have hFw := H.out.lt
      have HL3 := Lib.hid (HL2.out.mod m3 (fun k e x => by have := hFw k x; omega))
      have MF3 : Hid (Mod F w W3) := MF2.out.trans' m3 fun k _ e => by omega
      have hz8 : Hid (ZAt W3 w.heap.size) := (m3.block _ (lt_of hz7.out) (fun e => by omega)).trans hz7.out
      clear hnp hND hnd1 hN2 m3 HL2 MF2 hz7 hD7 hmk
      go_upto_region 23 with (fail)
      clear q1 q3 q33 zf z511 zM zF hW3
      have hbr : b < W3.heap.size := HL3.out.lt b HL3.out.fb
      have hgb : g ≠ b := HL3.out.ne
      have hgw : g < w.heap.size := hFw g H.out.fg
      have hbnl : bn < W3.heap.size := lt_of hN3.out
      have cA : ∀ U, Mod (· = g) W3 U → U.cell? ⟨b, 0, none⟩ = some (.slice (some ⟨g, 0, none⟩) T.L.length cap) := fun U hU => (World.cell?_of_block (a := ⟨b, 0, none⟩) (hU.block b hbr (fun e => hgb e.symm))).trans HL3.out.rv.c0
      have hRow : ∀ U, Mod (· = g) W3 U → U.rangeAt bn 0 (ndC (nd1, .slice none 0 0)) := fun U hU => nd_rng ((hU.block bn hbnl (fun e => by omega)).trans hN3.out)
      have hln1 := ndC_len (nd1, .slice none 0 0)
      refine wp_region_then3 (k := 10) (S := fun w' => Hid (Mod (· = g) W3 w')) _ _ rfl rfl rfl (by kernel_rfl) (by kernel_rfl) (Lib.hid (Mod.refl (· = g) W3).drew) (fun hHeld => ?_)
      simp only [List.take_succ_cons, List.take_zero]
      refine hT 0 rfl (fun _ _ => by go_simp; all_goals with_reducible rfl) ?_
      try simp only [gA, gB, gC, Act.put, sA, sB, sC]
      refine hT 1 rfl (fun _ _ => by go_simp; all_goals with_reducible rfl) ?_
      try simp only [gA, gB, gC, Act.put, sA, sB, sC]
      refine hT 2 rfl (fun _ _ => by go_simp; all_goals with_reducible rfl) ?_
      try simp only [gA, gB, gC, Act.put, sA, sB, sC]
      refine hT 3 rfl (fun _ _ => by go_simp; all_goals with_reducible rfl) ?_
      try simp only [gA, gB, gC, Act.put, sA, sB, sC]
      refine hT 4 rfl (fun wH hSw => by have cH := cA wH hSw.out; clear hSw; go_simp; all_goals with_reducible rfl) ?_
      try simp only [gA, gB, gC, Act.put, sA, sB, sC]
      refine hTy 5 rfl (by kernel_rfl) (fun _ _ _ h => h) (by assumption) (yieldsIf_load_mid (by rfl) 83 (.tmp 18) rfl bn 0 rfl (ndC (nd1, .slice none 0 0)) _ (fun wH hSw => hRow wH hSw.out) Tryz.underlying83 rfl (by kernel_rfl)) ?_
      try simp only [gA, gB, gC, Act.put, sA, sB, sC]
      have hb2 := bs_foldN nd1
      have hb1 : (ndC (nd1, .slice none 0 0)).length = 13 := rfl
      refine hR1 6 rfl fun K hK => ?_
      go_simp
      clear hb1 hb2
      have mB : Mod (· = g) W3 (W3.alloc (.cells (ndC (nd1, .slice none 0 0)).toArray 83)).drew := hHeld.out.alloc (.cells (ndC (nd1, .slice none 0 0)).toArray 83)
      have hLB : RTreeP (W3.alloc (.cells (ndC (nd1, .slice none 0 0)).toArray 83)).drew F b { L := T.L, last := la } g cap vks := (HL3.out.mod (Mod.ofDrew (Mod.refl (fun _ => False) W3.drew)) (fun _ x => x.elim)).mod ((Mod.refl (fun _ => False) W3.drew).alloc (.cells (ndC (nd1, .slice none 0 0)).toArray 83)) (fun _ x => x.elim)
      have A2 : Hid (Src Tryz.prog 13 84 (.slice (some ⟨W3.heap.size, 0, none⟩) 1 1) 1 (ndC (nd1, .slice none 0 0)) (W3.alloc (.cells (ndC (nd1, .slice none 0 0)).toArray 83)).drew) := src_nd1 nd1 W3.drew
      have A3 : Hid ((T.L.length + 1) * 144 ≤ 140737488355328) := (show _ ≤ _ by omega)
      have A4 : Hid (T.L.length + 1 ≤ 9223372036854775807) := (show _ ≤ _ by omega)
      generalize hwB : (W3.alloc (.cells (ndC (nd1, .slice none 0 0)).toArray 83)).drew = wB at *
      have HLB := Lib.hid hLB
      have HO := Lib.hid hLB.row
      clear hLB hwB
      refine hK.out _ _ (Lib.hid (mB)) ?_; clear hK K hHeld; intro hHeld
      try simp only [gA, gB, gC, Act.put, sA, sB, sC]
      refine hR1 7 rfl fun K hK => ?_
      refine Eq.mpr (if_pos ?hwant) ?_
      case hwant => rfl
      refine op_append (.tmp 125) (.tmp 127) _ _ rfl 0 83 (.agg #[.int .u64 0, .bool false, .int .u32 0, .int .u32 0, .string { data := #[] }, .string { data := #[] }, .string { data := #[] }, .int .u32 0, .int .u32 0, .int .u64 0, .string { data := #[] }, .string { data := #[] }, .slice none 0 0]) 13 144 Tryz.underlying84 info_nd rfl (by decide) (.slice (some ⟨g, 0, none⟩) T.L.length cap) _ _ rfl HO.out _ _ _ rfl A2.out A3.out A4.out (Nat.zero_le _) ?_
      intro v' w5 hown' hgrow hblk
      obtain ⟨g', cap', hv', hP, mP, gP⟩ := RTreeP.push HLB.out hnk hgrow hown' (hblk.imp id (fun e => ⟨_, e, Nat.le_refl _⟩))
      subst hv'
      have m5 : Mod (· = g) W3 w5 := hHeld.out.trans (hgrow.mono fun k _ e => own_slice (a := none) e)
      have hob : w5.heap[b]? = some (.cells #[.slice (some ⟨g, 0, none⟩) T.L.length cap, .int .u64 la] 86 (0, 0)) := (hgrow.block b (HLB.out.lt b HLB.out.fb) (fun e => hgb (own_slice (a := none) e).symm)).trans HLB.out.obj
      have zb : w5.frozen? ⟨b, 0, none⟩ = false := free_of hob 0
      have cb : w5.cell? ⟨b, 0, none⟩ = some (.slice (some ⟨g, 0, none⟩) T.L.length cap) := (cell_of hob 0).trans rfl
      have HP := Lib.hid hP
      have MP := Lib.hid mP
      have GP := Lib.hid gP
      have HB5 : Hid (wB.heap.size ≤ w5.heap.size) := hgrow.size
      have MB : Hid (Mod (· = g) W3 wB) := hHeld.out
      clear hown' hgrow hblk hob hP mP gP A2 A3 A4 HO
      refine hK.out _ _ (Lib.hid (m5)) ?_; clear hK K hHeld; intro hHeld
      try simp only [gA, gB, gC, Act.put, sA, sB, sC]
      refine hT 8 rfl (fun _ _ => by go_simp; all_goals with_reducible rfl) ?_
      try simp only [gA, gB, gC, Act.put, sA, sB, sC]
      refine hT 9 rfl (fun _ _ => by go_simp; all_goals with_reducible rfl) ?_
      try simp only [gA, gB, gC, Act.put, sA, sB, sC]
      refine wpAnyH_done (by kernel_rfl) ?_ _
      intro K hK
      go_simp
      refine hK _ _ ?_
      clear hK K
      have hLl : (T.L ++ [nd1]).length = T.L.length + 1 := by rw [List.length_append, List.length_singleton]
      have hn6 : (T.L ++ [nd1])[i]? = some d := by rw [List.getElem?_append_left hil]; exact hn
      have hvi : pushV T.L.length vks i = vks i := by unfold pushV; rw [if_neg (by omega)]
      generalize hW6 : w5.setCell ⟨b, 0, none⟩ (.slice (some ⟨g', 0, none⟩) (T.L.length + 1) cap') = W6 at HP MP ⊢
      generalize hF6 : (fun k => F k ∨ k = g') = F6 at *
      have hFg6 : GrowsF w F F6 := fun k hk => by
        rcases GP.out k hk with x | x
        · exact .inl x
        · exact .inr (by have := MF3.out.size; have := MB.out.size; omega)
      have hnF : ∀ k, F6 k → k ≠ w.heap.size ∧ k ≠ bn := fun k hk => by
        have h3 := MB.out.size
        have h4 := MF3.out.size
        rcases GP.out k hk with x | x
        · have := hFw k x; exact ⟨by omega, by omega⟩
        · exact ⟨by omega, by omega⟩
      have HnF := Lib.hid hnF
      have MF6 : Hid (Mod F w W6) := (MF3.out.trans (MB.out.mono fun k _ e => by rw [e]; exact H.out.fg)).trans MP.out
      have HG6 := Lib.hid hFg6
      have hz9 : Hid (ZAt W6 w.heap.size) := by
        have h1 : ZAt wB w.heap.size := (MB.out.block _ (lt_of hz8.out) (fun e => by omega)).trans hz8.out
        exact (MP.out.block _ (lt_of h1) (fun e => by have := hFw _ e; omega)).trans h1
      have hN6 : Hid (W6.heap[bn]? = some (ndO nd1 (.slice none 0 0))) := by
        have h1 := (MB.out.block _ hbnl (fun e => by omega)).trans hN3.out
        exact (MP.out.block _ (lt_of h1) (fun e => by have := hFw _ e; omega)).trans h1
      clear hz8 hN3 MF3 MB MP GP hF6 hFg6 hnF hW6 hHeld zb cb m5 mB HB5 HLB hRow cA HL3 wB w5
      generalize hL6 : T.L ++ [nd1] = L6 at *
      generalize pushV T.L.length vks = v6 at *
      rw [← hvi] at hkd
      have HLl := Lib.hid hLl
      have hFi : ∀ k, some k = (v6 i).ownBlock → F k := by rw [hvi]; exact fun k hk => (H.out.fk i hil k hk).1
      clear hvi hLl
      have hil6 : i < L6.length := (List.getElem?_eq_some_iff.1 hn6).1
      have c6 : W6.cell? ⟨b, 0, none⟩ = some (.slice (some ⟨g', 0, none⟩) L6.length cap') := HP.out.rv.c0
      have hc6 := HP.out.rv.cap
      have k2 : (i : Int) < (L6.length : Int) := by omega
      have k3 : (L6.length : Int) ≤ (cap' : Int) := by have : L6.length ≤ cap' := hc6; omega
      obtain ⟨ka, kc, hvk, hc1, hc2⟩ := kids_form (HP.out.rv.kid i d hn6)
      have e12 : W6.cell? ⟨g', i * 13 + 12, none⟩ = some (.slice ka d.kids.length kc) := by rw [← hvk]; exact HP.out.rv.el i d hn6 12 _ rfl
      have hkl := hno.kl
      obtain ⟨fr, hfr⟩ : ∃ fr, frI d.kids = fr := ⟨_, rfl⟩
      have hfl := fr_le d.kids
      have hft : ∀ j (h : j < d.kids.length), j < fr → d.kids[j] ≠ 0 := fun j h hj => fr_lt (by rw [hfr]; exact hj) h
      have hfa : ∀ (h : fr < d.kids.length), d.kids[fr] = 0 := by intro h; subst hfr; exact fr_at h
      rw [hfr] at hfl
      have HFt := Lib.hid hft
      have HFa := Lib.hid hfa
      clear hft hfa
      go_upto_block 0 with (fail)
      go_cut [20] from 131 to 157 (fun v wc => v = .int .i64 fr ∧ W6 = wc)
      case first =>
        go_wp2
        go_loopw [20] (fun k wr => ∃ j : Nat, j ≤ fr ∧ k = .int .i64 j ∧ W6 = wr) (fun k _ => fr - (intOf k).toNat)
        case atStart => exact ⟨0, Nat.zero_le _, rfl, rfl⟩
        case round =>
          obtain ⟨j, hj, rfl, rfl⟩ := hrel
          by_cases hjl : j < d.kids.length
          · have q1 : decide ((j : Int) < (d.kids.length : Int)) = true := by simp; omega
            have q1' : decide (j < d.kids.length) = true := by simp; omega
            obtain ⟨kg, ko, rfl, _, e0⟩ := hc2 j hjl
            have j1 : (0 : Int) ≤ (j : Int) := by omega
            have j2 : (j : Int) < (d.kids.length : Int) := by omega
            have j3 : (d.kids.length : Int) ≤ (kc : Int) := by omega
            by_cases hjf : j < fr
            · have hz := HFt.out j hjl hjf
              have q2 : ((d.kids[j] : Int) != 0) = true := by simp [hz]
              clear hz
              generalize d.kids[j] = k at *
              go_wp2
              go_roundw
              case rel => exact ⟨j + 1, hjf, by go_num, by first | rfl | trivial⟩
              case measure => simp [intOf]; omega
            · obtain rfl : j = fr := by omega
              have hz := HFa.out hjl
              have q2 : ((d.kids[j] : Int) != 0) = false := by simp [hz]
              clear hz
              generalize d.kids[j] = k at *
              go_wp2
              go_meet
              case rel => exact ⟨rfl, rfl⟩
          · have hjf : j = fr := by omega
            have q1 : decide ((j : Int) < (d.kids.length : Int)) = false := by simp; omega
            have q1' : decide (j < d.kids.length) = false := by simp; omega
            go_wp2
            go_meet
            case rel => exact ⟨by first | rfl | rw [hjf], rfl⟩
      case rest =>
      obtain ⟨rfl, rfl⟩ := hcut
      clear HFt HFa
      obtain ⟨K7, hK7⟩ : ∃ K7, (if fr < d.kids.length then d.kids else d.kids ++ [0]) = K7 := ⟨_, rfl⟩
      go_upto_if 168 with (fail)
      go_cut [20] from 158 to 185 (fun v wc => v = .int .i64 fr ∧ Hid (KAt w wc F b L6 la g' cap' i bn d nd1 K7))
      case first =>
        by_cases hlt : fr < d.kids.length
        · have q1 : ((fr : Int) == (d.kids.length : Int)) = false := by simp; omega
          rw [if_pos hlt] at hK7
          obtain ⟨kg, kc', hkv⟩ : ∃ kg kc', v6 i = .slice (some ⟨kg, 0, none⟩) d.kids.length kc' := by
            obtain ⟨n, hn'⟩ : ∃ n, d.kids.length = n + 1 := ⟨d.kids.length - 1, by omega⟩
            have h1 := HP.out.kid i d hn6
            rw [hn'] at h1 ⊢
            obtain ⟨kg, c, h2⟩ := OwnA.succ h1
            exact ⟨kg, c, h2⟩
          have hKA : Hid (KAt w W6 F b L6 la g' cap' i bn d nd1 K7) := by
            rw [← hK7]
            refine ⟨F6, v6, kg, kc', ?_, hkv, MF6.out, HG6.out, hz9.out, hN6.out, HnF.out⟩
            rw [show ({ d with kids := d.kids } : Nd) = d from rfl, set_same hn6]
            exact HP.out
          clear hkv hK7
          go_wp2
          go_meet
          case rel => exact ⟨rfl, hKA⟩
        · obtain rfl : fr = d.kids.length := by omega
          have q1 : ((d.kids.length : Int) == (d.kids.length : Int)) = true := by simp
          rw [if_neg hlt] at hK7
          have hfk := HP.out.fk i hil6
          have hbl6 := HP.out.lt b HP.out.fb
          have hgl6 := HP.out.lt g' HP.out.fg
          have cB : ∀ U, Mod (fun k => some k = (v6 i).ownBlock) W6 U → U.cell? ⟨b, 0, none⟩ = some (.slice (some ⟨g', 0, none⟩) L6.length cap') := fun U hU => (World.cell?_of_block (a := ⟨b, 0, none⟩) (hU.block b hbl6 (fun e => (hfk b e).2.1 rfl))).trans c6
          have cK : ∀ U, Mod (fun k => some k = (v6 i).ownBlock) W6 U → U.cell? ⟨g', i * 13 + 12, none⟩ = some (.slice ka d.kids.length kc) := fun U hU => (World.cell?_of_block (a := ⟨g', i * 13 + 12, none⟩) (hU.block g' hgl6 (fun e => (hfk g' e).2.2 rfl))).trans e12
          go_upto_region 28 with (fail)
          refine wp_region_then3 (k := 17) (S := fun w' => Hid (Mod (fun k => some k = (v6 i).ownBlock) W6 w')) _ _ rfl rfl rfl (by kernel_rfl) (by kernel_rfl) (Lib.hid (Mod.refl (fun k => some k = (v6 i).ownBlock) W6).drew) (fun hHeld => ?_)
          simp only [List.take_succ_cons, List.take_zero]
          refine hT 0 rfl (fun _ _ => by go_simp; all_goals with_reducible rfl) ?_
          try simp only [gA, gB, gC, Act.put, sA, sB, sC]
          refine hT 1 rfl (fun _ _ => by go_simp; all_goals with_reducible rfl) ?_
          try simp only [gA, gB, gC, Act.put, sA, sB, sC]
          refine hT 2 rfl (fun _ _ => by go_simp; all_goals with_reducible rfl) ?_
          try simp only [gA, gB, gC, Act.put, sA, sB, sC]
          refine hT 3 rfl (fun wH hSw => by have cH := cB wH hSw.out; clear hSw; go_simp; all_goals with_reducible rfl) ?_
          try simp only [gA, gB, gC, Act.put, sA, sB, sC]
          refine hT 4 rfl (fun _ _ => by go_simp; all_goals with_reducible rfl) ?_
          try simp only [gA, gB, gC, Act.put, sA, sB, sC]
          refine hT 5 rfl (fun _ _ => by go_simp; all_goals with_reducible rfl) ?_
          try simp only [gA, gB, gC, Act.put, sA, sB, sC]
          refine hT 6 rfl (fun _ _ => by go_simp; all_goals with_reducible rfl) ?_
          try simp only [gA, gB, gC, Act.put, sA, sB, sC]
          refine hT 7 rfl (fun _ _ => by go_simp; all_goals with_reducible rfl) ?_
          try simp only [gA, gB, gC, Act.put, sA, sB, sC]
          refine hT 8 rfl (fun wH hSw => by have cH := cB wH hSw.out; clear hSw; go_simp; all_goals with_reducible rfl) ?_
          try simp only [gA, gB, gC, Act.put, sA, sB, sC]
          refine hT 9 rfl (fun _ _ => by go_simp; all_goals with_reducible rfl) ?_
          try simp only [gA, gB, gC, Act.put, sA, sB, sC]
          refine hT 10 rfl (fun _ _ => by go_simp; all_goals with_reducible rfl) ?_
          try simp only [gA, gB, gC, Act.put, sA, sB, sC]
          refine hT 11 rfl (fun _ _ => by go_simp; all_goals with_reducible rfl) ?_
          try simp only [gA, gB, gC, Act.put, sA, sB, sC]
          refine hT 12 rfl (fun wH hSw => by have cH := cK wH hSw.out; clear hSw; go_simp; all_goals with_reducible rfl) ?_
          try simp only [gA, gB, gC, Act.put, sA, sB, sC]
          refine hR1 13 rfl fun K hK => ?_
          go_simp
          have mC : Mod (fun k => some k = (v6 i).ownBlock) W6 (W6.alloc (.cells #[.int .u64 0] 33)).drew := hHeld.out.alloc (.cells #[.int .u64 0] 33)
          have hLC : RTreeP (W6.alloc (.cells #[.int .u64 0] 33)).drew F6 b ⟨L6, la⟩ g' cap' v6 := (HP.out.mod (Mod.ofDrew (Mod.refl (fun _ => False) W6.drew)) (fun _ x => x.elim)).mod ((Mod.refl (fun _ => False) W6.drew).alloc (.cells #[.int .u64 0] 33)) (fun _ x => x.elim)
          have A2 : Hid (Src Tryz.prog 1 76 (.slice (some ⟨W6.heap.size, 0, none⟩) 1 1) 1 [.int .u64 0] (W6.alloc (.cells #[.int .u64 0] 33)).drew) := src_k1 W6.drew
          have A3 : Hid ((d.kids.length + 1) * 8 ≤ 140737488355328) := (show _ ≤ _ by omega)
          have A4 : Hid (d.kids.length + 1 ≤ 9223372036854775807) := (show _ ≤ _ by omega)
          generalize hwC : (W6.alloc (.cells #[.int .u64 0] 33)).drew = wC at *
          have HLC := Lib.hid hLC
          have HO : Hid (OwnA wC 0 1 (.slice ka d.kids.length kc) d.kids.length (kidsV d.kids)) := by rw [← hvk]; exact hLC.kid i d hn6
          clear hLC hwC
          refine hK.out _ _ (Lib.hid (mC)) ?_; clear hK K hHeld; intro hHeld
          try simp only [gA, gB, gC, Act.put, sA, sB, sC]
          refine hR1 14 rfl fun K hK => ?_
          refine Eq.mpr (if_pos ?hwant) ?_
          case hwant => rfl
          refine op_append (.tmp 181) (.tmp 182) _ _ rfl 0 33 (.int .u64 0) 1 8 Tryz.underlying76 info_u64 rfl (by decide) (.slice ka d.kids.length kc) _ _ rfl HO.out _ _ _ rfl A2.out A3.out A4.out (Nat.zero_le _) ?_
          intro v' w8 hown' hgrow hblk
          rw [← hvk] at hgrow hblk
          have hkk : kidsV d.kids ++ [.int .u64 0] = kidsV (d.kids ++ [0]) := by unfold kidsV; rw [List.map_append]; rfl
          have hll : (d.kids ++ [0]).length = d.kids.length + 1 := by rw [List.length_append, List.length_singleton]
          rw [hkk] at hown'
          obtain ⟨kg, kc', hv'⟩ := OwnA.succ hown'
          subst hv'
          obtain ⟨hP, mP, gP⟩ := RTreeP.setKids HLC.out hn6 hgrow (ks := d.kids ++ [0]) (by rw [hll]; exact hown') (hblk.imp id (fun e => ⟨_, e, Nat.le_refl _⟩))
          have m8 : Mod (fun k => some k = (v6 i).ownBlock) W6 w8 := hHeld.out.trans hgrow
          have hrw := HLC.out.row.modB hgrow (fun k hk e => by have e2 : k = g' := by simpa [Value.ownBlock] using hk
                                                               exact (hfk k e).2.2 e2)
          obtain ⟨_, _, hcc, hff⟩ := own_cap hrw
          have zk : w8.frozen? ⟨g', i * 13 + 12, none⟩ = false := HLC.out.row |> fun _ => hff (i * 13 + 12) (by have : (i + 1) * 13 ≤ cap' * 13 := Nat.mul_le_mul_right _ (by have : L6.length ≤ cap' := hc6; omega); omega)
          have ck : w8.cell? ⟨g', i * 13 + 12, none⟩ = some (v6 i) := by
            have := hcc (i * 13 + 12) (v6 i) (by rw [flatR_get ndC_len _ i (d, v6 i) (rowP_get hn6) 12 (by decide)]; rfl)
            exact this
          have hKA : Hid (KAt w (w8.setCell ⟨g', i * 13 + 12, none⟩ (.slice (some ⟨kg, 0, none⟩) (d.kids.length + 1) kc')) F b L6 la g' cap' i bn d nd1 K7) := by
            rw [← hK7]
            have mFC : Mod F w wC := MF6.out.trans (hHeld.out.mono fun k _ e => hFi k e)
            have hzC : ZAt wC w.heap.size := (hHeld.out.block _ (lt_of hz9.out) (fun e => by have := hFw _ (hFi _ e); omega)).trans hz9.out
            have hNC : wC.heap[bn]? = some (ndO nd1 (.slice none 0 0)) := (hHeld.out.block _ (lt_of hN6.out) (fun e => by have := hFw _ (hFi _ e); omega)).trans hN6.out
            have hz10 := (mP.block _ (lt_of hzC) (fun e => (HnF.out _ e).1 rfl)).trans hzC
            have hN10 := (mP.block _ (lt_of hNC) (fun e => (HnF.out _ e).2 rfl)).trans hNC
            refine ⟨_, _, kg, kc', hP, ?_, Mod.growsF mFC HG6.out mP, HG6.out.trans gP mFC.size, hz10, hN10, ?_⟩
            · unfold setV; rw [if_pos rfl, hll]
            · intro k hk
              rcases hk with x | x
              · exact HnF.out k x
              · rcases hblk with e | e
                · have := hFw k (hFi k (x.trans e)); exact ⟨by omega, by omega⟩
                · have e2 := x.trans e
                  injection e2 with e2
                  have h1 := lt_of hzC
                  have h2 := lt_of hNC
                  exact ⟨by omega, by omega⟩
          clear hown' hgrow hblk hP mP gP hcc hff hrw A2 A3 A4 HO hK7 hkk hll hvk
          refine hK.out _ _ (Lib.hid (m8)) ?_; clear hK K hHeld; intro hHeld
          try simp only [gA, gB, gC, Act.put, sA, sB, sC]
          refine hT 15 rfl (fun _ _ => by go_simp; all_goals with_reducible rfl) ?_
          try simp only [gA, gB, gC, Act.put, sA, sB, sC]
          refine hT 16 rfl (fun _ _ => by go_simp; all_goals with_reducible rfl) ?_
          try simp only [gA, gB, gC, Act.put, sA, sB, sC]
          refine wpAnyH_done (by kernel_rfl) ?_ _
          intro K hK
          go_simp
          refine hK _ _ ?_
          clear hK K
          go_wp2
          go_meet
          case rel => exact ⟨rfl, hKA⟩
      case rest =>
      obtain ⟨rfl, HKA⟩ := hcut
      obtain ⟨F7, v7, kg, kc7, hP7, hkv7, mF7, gF7, hz7, hN7, hnF7⟩ := HKA.out
      have hfK : fr < K7.length := by
        rw [← hK7]
        split
        · assumption
        · rw [List.length_append, List.length_singleton]; omega
      have hset : K7.set fr la = putKid d.kids la := by
        rw [putKid_eq, hfr, ← hK7]
        by_cases hx : fr < d.kids.length
        · rw [if_pos hx, if_pos hx]
        · rw [if_neg hx, if_neg hx]
          have hx2 : fr = d.kids.length := by omega
          rw [hx2, List.set_append_right _ _ (Nat.le_refl _), Nat.sub_self]
          rfl
      have hi7 : (L6.set i { d with kids := K7 })[i]? = some { d with kids := K7 } := get_set hil6
      have hI6 : idxP L6 p = some i := by rw [← hL6]; exact idx_push hi
      have hI7 : idxP (L6.set i { d with kids := K7 }) p = some i := idx_set hI6 hn6 rfl
      have hl7 : (L6.set i { d with kids := K7 }).length = L6.length := List.length_set
      have hl7k : (L6.set i { d with kids := K7 }).length ≤ 1024 := by rw [hl7, HLl.out]; omega
      generalize hL7 : L6.set i { d with kids := K7 } = L7 at *
      have c7 : wc.cell? ⟨b, 0, none⟩ = some (.slice (some ⟨g', 0, none⟩) L7.length cap') := hP7.rv.c0
      have e12 : wc.cell? ⟨g', i * 13 + 12, none⟩ = some (.slice (some ⟨kg, 0, none⟩) K7.length kc7) := by rw [← hkv7]; exact hP7.rv.el i _ hi7 12 _ rfl
      have eN : wc.cell? ⟨bn, 0, none⟩ = some (.int .u64 la) := by rw [← hnp1]; exact (cell_of hN7 0).trans rfl
      have hcap7 := hP7.rv.cap
      have hki := hP7.kid i _ hi7
      rw [hkv7] at hki
      obtain ⟨hkc, _, hkcell, hkfr⟩ := own_cap hki
      have zK : wc.frozen? ⟨kg, fr, none⟩ = false := hkfr fr (by have : K7.length ≤ kc7 := hkc; omega)
      have cK : wc.cell? ⟨kg, fr, none⟩ = some (.int .u64 (K7[fr])) := hkcell fr _ (by unfold kidsV; rw [List.getElem?_map, List.getElem?_eq_getElem hfK]; rfl)
      have k2 : (i : Int) < (L7.length : Int) := by rw [hl7]; omega
      have k3 : (L7.length : Int) ≤ (cap' : Int) := by have : L7.length ≤ cap' := hcap7; omega
      have k4 : (fr : Int) < (K7.length : Int) := by omega
      have k5 : (K7.length : Int) ≤ (kc7 : Int) := by have : K7.length ≤ kc7 := hkc; omega
      have k6 : (0 : Int) ≤ (fr : Int) := by omega
      obtain ⟨hP8, mP8⟩ := hP7.setKid hi7 (x := la) hkv7 hfK
      have HP8 := Lib.hid hP8
      have MP8 := Lib.hid mP8
      have HP7 := Lib.hid hP7
      have HF7 := Lib.hid mF7
      have HG7 := Lib.hid gF7
      have HZ7 := Lib.hid hz7
      have HN7 := Lib.hid hN7
      have HnF7 := Lib.hid hnF7
      have Hl7 := Lib.hid hl7
      have Hset := Lib.hid hset
      clear hP8 mP8 hP7 mF7 gF7 hz7 hN7 hnF7 hki hkcell hkfr hkv7 hkc hset hl7 HKA hK7
      go_upto_region 29 with (fail)
      refine wp_region_then3 (k := 12) (S := fun w' => Hid (Mod (fun _ => False) wc w')) _ _ rfl rfl rfl (by kernel_rfl) (by kernel_rfl) (Lib.hid (Mod.refl (fun _ => False) wc).drew) (fun hHeld => ?_)
      simp only [List.take_succ_cons, List.take_zero]
      refine hT 0 rfl (fun _ _ => by go_simp; all_goals with_reducible rfl) ?_
      try simp only [gA, gB, gC, Act.put, sA, sB, sC]
      refine hT 1 rfl (fun _ _ => by go_simp; all_goals with_reducible rfl) ?_
      try simp only [gA, gB, gC, Act.put, sA, sB, sC]
      refine hT 2 rfl (fun _ _ => by go_simp; all_goals with_reducible rfl) ?_
      try simp only [gA, gB, gC, Act.put, sA, sB, sC]
      refine hT 3 rfl (fun wH hSw => by have cH := keepN hSw.out c7; clear hSw; go_simp; all_goals with_reducible rfl) ?_
      try simp only [gA, gB, gC, Act.put, sA, sB, sC]
      refine hT 4 rfl (fun _ _ => by go_simp; all_goals with_reducible rfl) ?_
      try simp only [gA, gB, gC, Act.put, sA, sB, sC]
      refine hT 5 rfl (fun _ _ => by go_simp; all_goals with_reducible rfl) ?_
      try simp only [gA, gB, gC, Act.put, sA, sB, sC]
      refine hT 6 rfl (fun _ _ => by go_simp; all_goals with_reducible rfl) ?_
      try simp only [gA, gB, gC, Act.put, sA, sB, sC]
      refine hT 7 rfl (fun wH hSw => by have cH := keepN hSw.out e12; clear hSw; go_simp; all_goals with_reducible rfl) ?_
      try simp only [gA, gB, gC, Act.put, sA, sB, sC]
      refine hT 8 rfl (fun _ _ => by go_simp; all_goals with_reducible rfl) ?_
      try simp only [gA, gB, gC, Act.put, sA, sB, sC]
      refine hT 9 rfl (fun _ _ => by go_simp; all_goals with_reducible rfl) ?_
      try simp only [gA, gB, gC, Act.put, sA, sB, sC]
      refine hT 10 rfl (fun wH hSw => by have cH := keepN hSw.out eN; clear hSw; go_simp; all_goals with_reducible rfl) ?_
      try simp only [gA, gB, gC, Act.put, sA, sB, sC]
      refine hT 11 rfl (fun _ _ => by go_simp; all_goals with_reducible rfl) ?_
      try simp only [gA, gB, gC, Act.put, sA, sB, sC]
      refine wpAnyH_done (by kernel_rfl) ?_ _
      intro K hK
      go_simp
      refine hK _ _ ?_
      clear hK K
      have hdr := Mod.ofDrew (Mod.refl (fun _ => False) (wc.setCell ⟨kg, fr, none⟩ (.int .u64 (la : Int))).drew)
      generalize hW8 : (wc.setCell ⟨kg, fr, none⟩ (.int .u64 (la : Int))).drew = W8 at hdr ⊢
      have h8 := HP8.out.mod hdr (fun _ x => x.elim)
      have m8 : Mod F7 wc W8 := MP8.out.trans (hdr.mono fun _ _ x => x.elim)
      have hTo := rtouch_any F7 b g' cap' _ v7 p i _ who now W8 h8 (by show (L7.set i _).length ≤ 1024; rw [List.length_set]; exact hl7k) (idx_set hI7 hi7 rfl) (get_set (by rw [Hl7.out]; exact hil6)) hno.ver
      have hz8 : ZAt W8 w.heap.size := (m8.block _ (lt_of HZ7.out) (fun e => (HnF7.out _ e).1 rfl)).trans HZ7.out
      have hn8 : W8.heap[bn]? = some (ndO nd1 (.slice none 0 0)) := (m8.block _ (lt_of HN7.out) (fun e => (HnF7.out _ e).2 rfl)).trans HN7.out
      have HM8 : Hid (Mod F w W8) := Mod.growsF HF7.out HG7.out m8
      have Hz8 := Lib.hid hz8
      have Hn8 := Lib.hid hn8
      clear h8 m8 hz8 hn8 hdr hW8 HP8 MP8 HF7 HZ7 HN7 hHeld zK cK e12 eN c7
      go_wp2_with fail
      refine hTo.mono ?_
      rintro e w9 ⟨rfl, h9, m9⟩
      have hg7 := HnF7.out g' h9.fg
      have hz9' : Hid (ZAt w9 w.heap.size) := (m9.block _ (lt_of Hz8.out) (fun e => hg7.1 e.symm)).trans Hz8.out
      have hn9 : w9.heap[bn]? = some (ndO nd1 (.slice none 0 0)) := (m9.block _ (lt_of Hn8.out) (fun e => hg7.2 e.symm)).trans Hn8.out
      have HM9 : Hid (Mod F w w9) := Mod.growsF HM8.out HG7.out (m9.mono fun k _ e => by rw [e]; exact h9.fg)
      have hTL : ({ L := (L7.set i { d with kids := K7.set fr la }).set i (Nd.touch { d with kids := K7.set fr la } who now), last := la } : Tr) = (createT T p name perm m who now).1 := by
        rw [HS3.out]
        show _ = (⟨_ ++ [nd1], T.last + 1⟩ : Tr)
        have hu := congrArg Tr.L (stat_upd (T := T) hwf.rise (f := fun d => Nd.touch { d with kids := putKid d.kids (T.last + 1) } who now) hi hn)
        have hu2 : updN T.L p (fun d => Nd.touch { d with kids := putKid d.kids (T.last + 1) } who now) = T.L.set i (Nd.touch { d with kids := putKid d.kids (T.last + 1) } who now) := hu
        rw [hu2, hla, List.set_set, ← hL7, List.set_set, ← hL6, List.set_append_left _ _ hil, Hset.out]
      have R9 : Hid (RTreeP w9 F7 b (createT T p name perm m who now).1 g' cap' v7) := by
        show RTreeP _ _ _ _ _ _ _
        rw [← hTL]
        exact h9
      have hr9 := nd_rng hn9
      have hq := rqid_any nd1 (.slice none 0 0) w9
      clear hTo h9 m9 hn9 hTL Hn8 Hz8 HM8
      go_wp2_with (refine wpList_load_mid rfl 83 (.tmp 18) rfl bn 0 rfl (ndC (nd1, .slice none 0 0)) _ hr9 Tryz.underlying83 rfl (by kernel_rfl) ?_)
      refine hq.mono ?_
      rintro e w10 ⟨rfl, m10⟩
      have hz10 := hz9'.out.mod3 m10
      have M10 : Hid (Mod F w w10) := HM9.out.trans (m10.mono fun _ _ x => x.elim)
      have R10 : Hid (RTreeP w10 F7 b (createT T p name perm m who now).1 g' cap' v7) := R9.out.mod m10 (fun _ x => x.elim)
      clear hq hr9 HM9 R9 hz9'
      go_wp2_with (refine wpl_store_row rfl 35 (.tmp 14) (.tmp 204) rfl rfl w.heap.size (qiC (qidOf nd1)) rfl rfl 35 _ hz10 rfl (qi_one _) (by kernel_rfl) ?_; intro V9 hv9 mv9)
      have MV : Mod F w V9 := M10.out.trans' mv9 fun k hk e => by omega
      have RV : RTreeP V9 F7 b (createT T p name perm m who now).1 g' cap' v7 := R10.out.mod mv9 (fun k e x => (HnF7.out k x).1 e)
      refine bodyPost_ret (results_cell2 rfl _ _ V9 w.heap.size (qiC (qidOf nd1)) _ rfl (qi_rng hv9) Tryz.underlying35 rfl (by kernel_rfl)) rfl ?_
      exact ⟨by rw [HS3.out]; rfl, F7, g', cap', v7, RV, MV, HG7.out⟩
end Go.Proofs.YtkcnbbjmkkaolaaGreatDoor
namespace Go.Proofs.YtkcnbbjmkkaolaaGreatDoor
open Go.RowKit

def skipV (i : Nat) (vks : Nat → Value) (j : Nat) : Value := if j < i then vks j else vks (j + 1)
theorem rowP_erase {L : List Nd} {vks : Nat → Value} {i : Nat} : rowP (L.eraseIdx i) (skipV i vks) = (rowP L vks).take i ++ (rowP L vks).drop (i + 1) := by
  rw [← List.eraseIdx_eq_take_drop_succ]
  apply List.ext_getElem?
  intro j
  unfold rowP skipV
  rw [List.getElem?_mapIdx, List.getElem?_eraseIdx, List.getElem?_eraseIdx, List.getElem?_mapIdx, List.getElem?_mapIdx]
  by_cases h : j < i
  · simp only [if_pos h]
  · simp only [if_neg h]
theorem flatR_take {α : Type} {cs : α → List Value} {sz : Nat} (hl : ∀ a, (cs a).length = sz) : ∀ (l : List α) (i : Nat), flatR cs (l.take i) = (flatR cs l).take (i * sz)
  | [], i => by simp [flatR]
  | a :: l, 0 => by simp [flatR]
  | a :: l, i + 1 => by
    have h := flatR_take hl l i
    unfold flatR at *
    rw [List.take_succ_cons, List.flatMap_cons, List.flatMap_cons, h, List.take_append, hl, Nat.succ_mul, Nat.add_sub_cancel]
    rw [List.take_of_length_le (l := cs a) (by rw [hl]; omega)]
theorem flatR_drop {α : Type} {cs : α → List Value} {sz : Nat} (hl : ∀ a, (cs a).length = sz) : ∀ (l : List α) (i : Nat), flatR cs (l.drop i) = (flatR cs l).drop (i * sz)
  | [], i => by simp [flatR]
  | a :: l, 0 => by simp [flatR]
  | a :: l, i + 1 => by
    have h := flatR_drop hl l i
    unfold flatR at *
    rw [List.drop_succ_cons, List.flatMap_cons, h, List.drop_append, hl, Nat.succ_mul, Nat.add_sub_cancel]
    have h0 : List.drop (i * sz + sz) (cs a) = [] := List.drop_eq_nil_of_le (by rw [hl]; omega)
    rw [h0, List.nil_append]
/-- a file is taken out: the row lies in another block -/
theorem RTreeP.erase {w w2 : World} {F : Nat → Prop} {b : Nat} {T : Tr} {g cap : Nat} {vks : Nat → Value} (h : RTreeP w F b T g cap vks) {i g2 cap2 m : Nat} (hi : i < T.L.length) (hlm : m + 1 = T.L.length) (hm : Mod (fun _ => False) w w2)
    (ho : OwnA w2 w.heap.size 13 (.slice (some ⟨g2, 0, none⟩) m cap2) m (flatR ndC (rowP (T.L.eraseIdx i) (skipV i vks)))) :
    RTreeP (w2.setCell ⟨b, 0, none⟩ (.slice (some ⟨g2, 0, none⟩) m cap2)) (fun k => F k ∨ k = g2) b { T with L := T.L.eraseIdx i } g2 cap2 (skipV i vks) ∧ Mod F w (w2.setCell ⟨b, 0, none⟩ (.slice (some ⟨g2, 0, none⟩) m cap2)) ∧ GrowsF w F (fun k => F k ∨ k = g2) := by
  have hle : (T.L.eraseIdx i).length = m := by rw [List.length_eraseIdx, if_pos hi]; omega
  obtain ⟨hg1, hg2⟩ := ho.lt g2 rfl
  have hbl : b < w.heap.size := h.lt b h.fb
  have hms : Mod (· = b) w2 (w2.setCell ⟨b, 0, none⟩ (.slice (some ⟨g2, 0, none⟩) m cap2)) := Mod.set1 w2 b 0 _
  have hob := (hm.block b hbl (fun e => e)).trans h.obj
  have hMF : Mod F w (w2.setCell ⟨b, 0, none⟩ (.slice (some ⟨g2, 0, none⟩) m cap2)) := (hm.mono fun k _ e => e.elim).trans (hms.mono fun k _ e => by rw [e]; exact h.fb)
  have hsk : ∀ j, j < m → ∃ q, q < T.L.length ∧ skipV i vks j = vks q ∧ (T.L.eraseIdx i)[j]? = T.L[q]? ∧ (q = if j < i then j else j + 1) := fun j hj => by
    unfold skipV
    rw [List.getElem?_eraseIdx]
    by_cases hx : j < i
    · rw [if_pos hx, if_pos hx]; exact ⟨j, by omega, rfl, rfl, by rw [if_pos hx]⟩
    · rw [if_neg hx, if_neg hx]; exact ⟨j + 1, by omega, rfl, rfl, by rw [if_neg hx]⟩
  refine ⟨⟨?_, ?_, fun j n hj => ?_, .inl h.fb, .inr rfl, by omega, ?_, ?_, ?_⟩, hMF, ?_⟩
  · show (w2.setCell _ _).heap[b]? = some (.cells #[.slice (some ⟨g2, 0, none⟩) (T.L.eraseIdx i).length cap2, _] _ _)
    rw [hle]
    exact heap_set hob 0 _
  · show OwnA _ 0 13 (.slice (some ⟨g2, 0, none⟩) (T.L.eraseIdx i).length cap2) (T.L.eraseIdx i).length (flatR ndC (rowP (T.L.eraseIdx i) (skipV i vks)))
    rw [hle]
    exact (ho.mono (Nat.zero_le _)).modB hms fun k hk e => by
      have e2 : k = g2 := by simpa [Value.ownBlock] using hk
      omega
  · have hj' : (T.L.eraseIdx i)[j]? = some n := hj
    have hjm : j < m := by rw [← hle]; exact (List.getElem?_eq_some_iff.1 hj').1
    obtain ⟨q, hq, e1, e2, _⟩ := hsk j hjm
    rw [e2] at hj'
    rw [e1]
    exact ((h.kid q n hj').modB hm fun k _ e => e.elim).modB hms fun k hk e => (h.fk q hq k hk).2.1 e
  · intro j hj k hk
    have hjm : j < m := by rw [← hle]; exact hj
    obtain ⟨q, hq, e1, _, _⟩ := hsk j hjm
    rw [e1] at hk
    obtain ⟨a1, a2, a3⟩ := h.fk q hq k hk
    exact ⟨.inl a1, a2, by have := h.lt k a1; omega⟩
  · intro j j2 hj hj2 hjj k hk
    have hjm : j < m := by rw [← hle]; exact hj
    have hjm2 : j2 < m := by rw [← hle]; exact hj2
    obtain ⟨q, hq, e1, _, e3⟩ := hsk j hjm
    obtain ⟨q2, hq2, f1, _, f3⟩ := hsk j2 hjm2
    rw [e1] at hk
    rw [f1]
    refine h.dj q q2 hq hq2 ?_ k hk
    rw [e3, f3]
    split <;> split <;> omega
  · intro k hk
    rcases hk with x | x
    · exact Nat.lt_of_lt_of_le (h.lt k x) hMF.size
    · rw [x]; exact Nat.lt_of_lt_of_le hg2 hms.size
  · intro k hk
    rcases hk with x | x
    · exact .inl x
    · exact .inr (by omega)
/-- a path stands at one place alone -/
theorem erase_filter {L : List Nd} (hw : L.Pairwise fun a b => a.path < b.path) {p i : Nat} (hi : idxP L p = some i) : L.filter (fun n => decide (n.path ≠ p)) = L.eraseIdx i := by
  induction L generalizing i with
  | nil => cases hi
  | cons a L ih =>
    rw [List.pairwise_cons] at hw
    unfold idxP at hi
    rw [List.findIdx?_cons] at hi
    by_cases h : a.path = p
    · rw [if_pos (by simpa using h)] at hi
      injection hi with hi
      subst hi
      rw [List.filter_cons_of_neg (by simp [h]), List.eraseIdx_cons_zero, List.filter_eq_self]
      intro n hn
      have := hw.1 n hn
      simp
      omega
    · rw [if_neg (by simpa using h)] at hi
      cases hj : L.findIdx? (fun n => n.path == p) with
      | none => rw [hj] at hi; cases hi
      | some j =>
        rw [hj] at hi
        injection hi with hi
        subst hi
        rw [List.filter_cons_of_pos (by simp [h]), List.eraseIdx_cons_succ, ih hw.2 hj]
/-- the first n places turned -/
def zapK (p j : Nat) (l : List Nat) : List Nat := (l.take j).map (fun k => if k = p then 0 else k) ++ l.drop j
theorem zap_len (p j : Nat) (l : List Nat) : (zapK p j l).length = l.length := by
  unfold zapK
  rw [List.length_append, List.length_map, List.length_take, List.length_drop]
  omega
theorem zap_zero (p : Nat) (l : List Nat) : zapK p 0 l = l := rfl
theorem zap_all (p : Nat) (l : List Nat) : zapK p l.length l = l.map fun k => if k = p then 0 else k := by unfold zapK; rw [List.take_length, List.drop_length, List.append_nil]
theorem zap_at {p j : Nat} {l : List Nat} (h : j < l.length) : (zapK p j l)[j]? = some l[j] := by
  unfold zapK
  rw [List.getElem?_append_right (by rw [List.length_map, List.length_take]; omega), List.length_map, List.length_take, Nat.min_eq_left (by omega), Nat.sub_self, List.getElem?_drop, Nat.add_zero, List.getElem?_eq_getElem h]
theorem zap_succ {p j : Nat} {l : List Nat} (h : j < l.length) : zapK p (j + 1) l = (zapK p j l).set j (if l[j] = p then 0 else l[j]) := by
  unfold zapK
  have hl : ((l.take j).map fun k => if k = p then 0 else k).length = j := by rw [List.length_map, List.length_take]; omega
  rw [List.set_append_right _ _ (by rw [hl]; exact Nat.le_refl _), hl, Nat.sub_self, List.drop_eq_getElem_cons h, List.set_cons_zero, List.take_succ_eq_append_getElem h, List.map_append, List.append_assoc]
  rfl
theorem zap_same {p j : Nat} {l : List Nat} (h : j < l.length) (hp : l[j] ≠ p) : zapK p (j + 1) l = zapK p j l := by
  rw [zap_succ h, if_neg hp, set_same (zap_at h)]
end Go.Proofs.YtkcnbbjmkkaolaaGreatDoor
